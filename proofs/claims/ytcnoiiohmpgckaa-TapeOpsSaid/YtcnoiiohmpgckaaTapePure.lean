
import Derived.Test.YtcnoiiohmpgckaaBase
namespace Go.Proofs.Ytcnoiiohmpgckaa
open Go
def ap (n:Int):List Int:=if n<128 then [n] else (128+n % 128)::ap (n / 128)
termination_by n.toNat
decreasing_by omega
theorem dX {n:Int} (h:n<128):ap n=[n]:=by rw [ap,if_pos h]
theorem fZ {n:Int} (h:128≤n):ap n=(128+n % 128)::ap (n / 128):=by rw [ap,if_neg (by omega)]
theorem mi:∀ (k:Nat) (n:Int),n<128 ^ (k+1)→(ap n).length≤k+1
 | 0,n,h=>by rw [dX (by simpa using h)]; simp
 | k+1,n,h=>by
  by_cases e:n<128
  ·rw [dX e]; simp
  ·rw [fZ (by omega),List.length_cons]
   have:=mi k (n / 128) (by
    have e2:(128:Int) ^ (k+1+1)=128 ^ (k+1) * 128:=Int.pow_succ ..
    omega)
   omega
theorem mh {n:Int} (h:n<18446744073709551616):(ap n).length≤10:=mi 9 n (by
 have e:(128:Int) ^ (9+1)=1180591620717411303424:=by decide
 rw [e]; omega)
theorem pr (n:Int):0<(ap n).length:=by
 by_cases e:n<128
 ·rw [dX e]; simp
 ·rw [fZ (by omega)]; simp
def aH:List UInt8→Int
 | []=>0
 | c::r=>((c.toNat % 128:Nat):Int)+128 * aH r
theorem cK:∀ l,0≤aH l
 | []=>by simp [aH]
 | c::r=>by have:=cK r; unfold aH; omega
theorem fM:∀ l,aH l<128 ^ l.length
 | []=>by simp [aH]
 | c::r=>by
  have:=fM r
  have e2:(128:Int) ^ (c::r).length=128 ^ r.length * 128:=by rw [List.length_cons,Int.pow_succ]
  rw [e2]
  unfold aH
  omega
theorem gu (c:UInt8):∀ l,aH (l++[c])=aH l+((c.toNat % 128:Nat):Int) * 128 ^ l.length
 | []=>by simp [aH]
 | d::r=>by
  rw [List.cons_append,aH,gu c r,aH,List.length_cons,Int.pow_succ]
  have e:((c.toNat % 128:Nat):Int) * (128 ^ r.length * 128)=128 * (((c.toNat % 128:Nat):Int) * 128 ^ r.length):=by
   rw [← Int.mul_assoc,Int.mul_comm]
  rw [e]
  omega
def dn:Nat→List UInt8→Option (List UInt8×List UInt8)
 | 0,_=>none
 | _+1,[]=>none
 | d+1,c::r=>if c.toNat<128 then some ([c],r) else (dn d r).map fun x=>(c::x.1,x.2)
def cN (p:List UInt8):Nat:=(p.getD (p.length - 1) 0).toNat
theorem ja (c:UInt8) {p:List UInt8} (h:p≠[]):cN (c::p)=cN p:=by
 unfold cN
 obtain ⟨d,r,rfl⟩:=List.exists_cons_of_ne_nil h
 simp
theorem c9:∀ (d:Nat) (s p q:List UInt8),dn d s=some (p,q)→s=p++q∧p≠[]∧p.length≤d∧cN p<128
 | 0,_,_,_,h=>by cases h
 | _+1,[],_,_,h=>by cases h
 | d+1,c::r,p,q,h=>by
  unfold dn at h
  split at h
  ·rename_i hc
   simp only [Option.some.injEq,Prod.mk.injEq] at h
   obtain ⟨rfl,rfl⟩:=h
   exact ⟨rfl,by simp,by simp,by simpa [cN] using hc⟩
  ·obtain ⟨⟨p',q'⟩,h1,h2⟩:=Option.map_eq_some_iff.1 h
   simp only [Prod.mk.injEq] at h2
   obtain ⟨rfl,rfl⟩:=h2
   obtain ⟨e1,e2,e3,e4⟩:=c9 d r p' q' h1
   exact ⟨by rw [e1]; rfl,by simp,by simp; omega,by rw [ja c e2]; exact e4⟩
theorem gT:∀ (d:Nat) (s p q:List UInt8),dn d s=some (p,q)→(aa (ap (aH p))=p ↔ (p.length=1∨cN p≠0))∧(aH p=0→cN p=0)
 | 0,_,_,_,h=>by cases h
 | _+1,[],_,_,h=>by cases h
 | d+1,c::r,p,q,h=>by
  unfold dn at h
  split at h
  ·rename_i hc
   simp only [Option.some.injEq,Prod.mk.injEq] at h
   obtain ⟨rfl,rfl⟩:=h
   have e:aH [c]=(c.toNat:Int):=by simp only [aH]; omega
   rw [e,dX (by omega)]
   refine ⟨?_,fun hz=>by simp only [cN,List.length_singleton,Nat.sub_self,List.getD_cons_zero]; omega⟩
   simp [aa]
  ·rename_i hc
   obtain ⟨⟨p',q'⟩,h1,h2⟩:=Option.map_eq_some_iff.1 h
   simp only [Prod.mk.injEq] at h2
   obtain ⟨rfl,rfl⟩:=h2
   obtain ⟨ih,ih0⟩:=gT d r p' q' h1
   obtain ⟨_,hne,_,_⟩:=c9 d r p' q' h1
   have hv:=cK p'
   have hl:=ja c hne
   have hlen:p'.length≠0:=fun e=>hne (List.eq_nil_of_length_eq_zero e)
   refine ⟨?_,fun hz=>?_⟩
   ·by_cases hz:aH p'=0
    ·have e:aH (c::p')=((c.toNat % 128:Nat):Int):=by rw [aH]; omega
     rw [e,dX (n:=((c.toNat % 128:Nat):Int)) (by omega),hl,ih0 hz]
     constructor
     ·intro hh
      have:=congrArg List.length hh
      simp only [aa,List.map_cons,List.map_nil,List.length_cons,List.length_nil] at this
      omega
     ·rintro (hh | hh)
      ·simp only [List.length_cons] at hh; omega
      ·exact absurd rfl hh
    ·have ev:aH (c::p')=((c.toNat % 128:Nat):Int)+128 * aH p':=rfl
     have e:ap (aH (c::p'))=(128+((c.toNat % 128:Nat):Int))::ap (aH p'):=by
      rw [fZ (by omega),show aH (c::p') % 128=((c.toNat % 128:Nat):Int) by omega,show aH (c::p') / 128=aH p' by omega]
     have hb:UInt8.ofNat (128+((c.toNat % 128:Nat):Int)).toNat=c:=by
      have hlt:=c.toNat_lt
      have:(128+((c.toNat % 128:Nat):Int)).toNat=c.toNat:=by omega
      rw [this]
      exact UInt8.ofNat_toNat
     rw [e,hl]
     simp only [aa,List.map_cons,hb,List.cons.injEq,true_and]
     rw [show List.map (fun n:Int=>UInt8.ofNat n.toNat) (ap (aH p'))=aa (ap (aH p')) from rfl,ih]
     constructor
     ·rintro (hh | hh)
      ·right
       intro h0
       apply hz
       obtain ⟨x,rfl⟩:=List.length_eq_one_iff.1 hh
       have:x.toNat=0:=h0
       simp [aH,this]
      ·exact .inr hh
     ·rintro (hh | hh)
      ·simp only [List.length_cons] at hh; omega
      ·exact .inr hh
   ·rw [hl]
    apply ih0
    rw [aH] at hz
    omega
theorem mM:∀ (d i:Nat) (s:List UInt8),(∀ c∈s.take i,128≤c.toNat)→i<s.length→(s.getD i 0).toNat<128→i<d→dn d s=some (s.take (i+1),s.drop (i+1))
 | 0,_,_,_,_,_,h=>by omega
 | _+1,_,[],_,h,_,_=>by simp at h
 | d+1,0,c::r,_,_,h,_=>by
  have h:c.toNat<128:=by simpa using h
  rw [dn,if_pos h]
  simp
 | d+1,i+1,c::r,ha,hl,h,hd=>by
  have hc:128≤c.toNat:=ha c (by simp)
  rw [dn,if_neg (by omega),mM d i r (fun x hx=>ha x (by simp [hx])) (by simpa using hl) (by simpa using h) (by omega)]
  simp
theorem mN:∀ (d:Nat) (s:List UInt8),(∀ c∈s.take d,128≤c.toNat)→dn d s=none
 | 0,_,_=>rfl
 | _+1,[],_=>rfl
 | d+1,c::r,ha=>by
  have hc:128≤c.toNat:=ha c (by simp)
  rw [dn,if_neg (by omega),mN d r (fun x hx=>ha x (by simp [hx]))]
  rfl
abbrev Rd:=List UInt8×Bool
def oZ (p:List UInt8):Bool:=(decide (cN p=0)&&decide (1<p.length))||(decide (p.length=10)&&decide (1<cN p))
def ca (r:Rd):Int×Rd :=
 match dn 10 r.1 with
 | some (p,q)=>(aH p % 18446744073709551616,q,r.2||oZ p)
 | none=>(0,r.1,true)
def cU (s:List UInt8):Int×List UInt8×Bool :=
 match dn 10 s with
 | some (p,q)=>if p.length=10∧1<cN p then (0,[],false) else (aH p,q,decide (aa (ap (aH p))=p))
 | none=>(0,[],false)
theorem kX {s:List UInt8} (h:(cU s).2.2=true):ca (s,false)=((cU s).1,(cU s).2.1,false)∧(cU s).2.1.length<s.length∧0≤(cU s).1∧(cU s).1<18446744073709551616:=by
 unfold cU ca at *
 cases hc:dn 10 s with
 | none=>rw [hc] at h; cases h
 | some x =>
  obtain ⟨p,q⟩:=x
  rw [hc] at h
  simp only at h ⊢
  obtain ⟨e1,e2,e3,e4⟩:=c9 10 s p q hc
  obtain ⟨hcan,_⟩:=gT 10 s p q hc
  have hlen:p.length≠0:=fun e=>e2 (List.eq_nil_of_length_eq_zero e)
  split at h
  ·cases h
  ·rename_i hn
   rw [if_neg hn]
   have hcan:=hcan.1 (of_decide_eq_true h)
   have hv0:=cK p
   have hv:aH p<18446744073709551616:=by
    have hlt:=fM p
    by_cases h10:p.length=10
    ·have hl1:cN p≤1:=by omega
     have hd:p.dropLast++[p.getLast e2]=p:=List.dropLast_concat_getLast e2
     have hlast:(p.getLast e2).toNat=cN p:=by
      unfold cN
      rw [List.getLast_eq_getElem]
      simp [List.getD,show p.length - 1<p.length by omega]
     have:=gu (p.getLast e2) p.dropLast
     rw [hd] at this
     have hdl:p.dropLast.length=9:=by simp [h10]
     have h9:=fM p.dropLast
     rw [hdl] at this h9
     have e9:(128:Int) ^ 9=9223372036854775808:=by decide
     rw [e9] at this h9
     have:(p.getLast e2).toNat % 128≤1:=by omega
     omega
    ·have h9:p.length≤9:=by omega
     have:(128:Int) ^ p.length≤128 ^ 9:=by exact_mod_cast Nat.pow_le_pow_right (n:=128) (by omega) h9
     have e9:(128:Int) ^ 9=9223372036854775808:=by decide
     omega
   refine ⟨?_,?_,hv0,hv⟩
   ·have hb:oZ p=false:=by
     unfold oZ
     rw [Bool.or_eq_false_iff]
     refine ⟨?_,?_⟩
     ·rw [Bool.and_eq_false_iff]
      rcases hcan with h1 | h1
      ·right; simp; omega
      ·left; simpa using h1
     ·rw [Bool.and_eq_false_iff]
      by_cases h10:p.length=10
      ·right; simp; omega
      ·left; simpa using h10
    rw [hb,Int.emod_eq_of_lt hv0 hv]
    rfl
   ·rw [e1,List.length_append]; simp only; omega
theorem nY {s:List UInt8} (h:(cU s).2.2=false):(ca (s,false)).2.2=true:=by
 unfold cU ca at *
 cases hc:dn 10 s with
 | none=>rfl
 | some x =>
  obtain ⟨p,q⟩:=x
  rw [hc] at h
  simp only at h ⊢
  obtain ⟨_,e2,e3,e4⟩:=c9 10 s p q hc
  obtain ⟨hcan,_⟩:=gT 10 s p q hc
  have hlen:p.length≠0:=fun e=>e2 (List.eq_nil_of_length_eq_zero e)
  unfold oZ
  split at h
  ·rename_i hn
   rw [decide_eq_true hn.1,decide_eq_true hn.2]
   simp
  ·simp only [decide_eq_false_iff_not] at h
   have h1:p.length≠1:=fun e=>h (hcan.2 (.inl e))
   have h2:cN p=0:=Classical.byContradiction fun e=>h (hcan.2 (.inr e))
   rw [decide_eq_true h2,decide_eq_true (show 1<p.length by omega)]
   simp
theorem oK {s:List UInt8}:(ca (s,true)).2.2=true:=by
 unfold ca
 cases dn 10 (s,true).1 <;> simp
theorem pq (r:Rd):0≤(ca r).1∧(ca r).1<18446744073709551616∧(ca r).2.1.length≤r.1.length:=by
 unfold ca
 cases hc:dn 10 r.1 with
 | none=>simp
 | some x =>
  obtain ⟨p,q⟩:=x
  obtain ⟨e1,_,_,_⟩:=c9 10 r.1 p q hc
  simp only
  refine ⟨by omega,by omega,?_⟩
  rw [e1,List.length_append]; omega
theorem nk (r:Rd) (h:(ca r).2.2=false):(ca r).2.1.length<r.1.length:=by
 unfold ca at *
 cases hc:dn 10 r.1 with
 | none=>rw [hc] at h; cases h
 | some x =>
  obtain ⟨p,q⟩:=x
  obtain ⟨e1,e2,_,_⟩:=c9 10 r.1 p q hc
  have hlen:p.length≠0:=fun e=>e2 (List.eq_nil_of_length_eq_zero e)
  simp only
  rw [e1,List.length_append]; omega
def an:Nat→Rd→List Int×Rd
 | 0,r=>([],r)
 | k+1,r=>((an k r).1++[(ca (an k r).2).1],(ca (an k r).2).2)
theorem fW:∀ (k:Nat) (r:Rd),(an k r).1.length=k
 | 0,_=>rfl
 | k+1,r=>by rw [an,List.length_append,fW k r]; rfl
theorem iR:∀ (k:Nat) (r:Rd),(∀ x∈(an k r).1,0≤x∧x<18446744073709551616)∧(an k r).2.1.length≤r.1.length
 | 0,r=>⟨by simp [an],Nat.le_refl _⟩
 | k+1,r=>by
  obtain ⟨h1,h2⟩:=iR k r
  obtain ⟨g1,g2,g3⟩:=pq (an k r).2
  rw [an]
  refine ⟨fun x hx=>?_,by simp only; omega⟩
  rcases List.mem_append.1 hx with hx | hx
  ·exact h1 x hx
  ·simp only [List.mem_singleton] at hx; subst hx; exact ⟨g1,g2⟩
theorem nd:∀ (k:Nat) (r:Rd),(an (k+1) r).2.2=false→(an (k+1) r).2.1.length<r.1.length
 | k,r,h=>by
  rw [an] at h ⊢
  have:=nk _ h
  have:=(iR k r).2
  simp only at *
  omega
def o5 (r:Rd):Nat:=if r.2=true then 0 else r.1.length
theorem mm {r:Rd} (h:r.1≠[]∧r.2=false):o5 (an 5 r).2<o5 r:=by
 have h1:0<r.1.length:=List.length_pos_iff.2 h.1
 unfold o5
 rw [h.2]
 simp only [Bool.false_eq_true,if_false]
 split
 ·exact h1
 ·rename_i hb
  exact nd 4 r (by simpa using hb)
abbrev eR:=Int×Int×Int×Int×Int
def lg (n:Int):Int:=IntKind.i64.wrap n
def kZ (l:List Int):eR:=(lg (l.getD 0 0),lg (l.getD 1 0),lg (l.getD 2 0),lg (l.getD 3 0),l.getD 4 0)
def aC (r:Rd) (out:List eR):List eR×Rd :=
 if _h:r.1≠[]∧r.2=false then aC (an 5 r).2 (out++[kZ (an 5 r).1]) else (out,r)
termination_by o5 r
decreasing_by exact mm _h
def aV (s:List UInt8):Option (List Int) :=
 if s=[] then some [] else if _h:(cU s).2.2=true then (aV (cU s).2.1).map ((cU s).1::·) else none
termination_by s.length
decreasing_by exact (kX _h).2.1
theorem eZ:aV []=some []:=by rw [aV,if_pos rfl]
theorem eE {s:List UInt8} (hs:s≠[]) (h:(cU s).2.2=true):aV s=(aV (cU s).2.1).map ((cU s).1::·):=by rw [aV,if_neg hs,dif_pos h]
theorem fa {s:List UInt8} (hs:s≠[]) (h:(cU s).2.2=false):aV s=none:=by rw [aV,if_neg hs,dif_neg (by rw [h]; simp)]
theorem qh:(cU []).2.2=false:=rfl
def aR:List Int→List eR
 | a::b::c::d::e::r=>(lg a,lg b,lg c,lg d,e)::aR r
 | _=>[]
theorem iQ (s:List UInt8):∀ k:Nat,
  (∀ l,aV s=some l→k≤l.length→∃ s',an k (s,false)=(l.take k,(s',false))∧aV s'=some (l.drop k)∧s'.length+k≤s.length) ∧
  (∀ l,aV s=some l→l.length<k→(an k (s,false)).2.2=true) ∧
  (aV s=none→(an k (s,false)).2.2=true∨∃ s',(an k (s,false)).2=(s',false)∧aV s'=none∧s'.length+k≤s.length)
 | 0=>⟨fun l h _=>⟨s,by simp [an],by simpa using h,by simp⟩,fun l _ h=>by omega,fun h=>.inr ⟨s,rfl,h,by simp⟩⟩
 | k+1=>by
  obtain ⟨hA,hB,hC⟩:=iQ s k
  have stick:(an k (s,false)).2.2=true→(an (k+1) (s,false)).2.2=true:=fun h=>by
   rw [an]
   have e:(an k (s,false)).2=((an k (s,false)).2.1,true):=by rw [← h]
   rw [e]
   exact oK
  refine ⟨fun l h hk=>?_,fun l h hk=>?_,fun h=>?_⟩
  ·obtain ⟨s',e1,e2,e3⟩:=hA l h (by omega)
   have hd:l.drop k=l[k]::l.drop (k+1):=List.drop_eq_getElem_cons (by omega)
   have hs:s'≠[]:=fun e=>by rw [e,eZ,hd] at e2; cases e2
   cases hb:(cU s').2.2 with
   | false=>rw [fa hs hb] at e2; cases e2
   | true =>
    rw [eE hs hb,hd] at e2
    obtain ⟨l',h1,h2⟩:=Option.map_eq_some_iff.1 e2
    simp only [List.cons.injEq] at h2
    obtain ⟨g1,g2,_⟩:=kX hb
    refine ⟨(cU s').2.1,?_,by rw [h1,h2.2],by omega⟩
    rw [an,e1]
    simp only [g1]
    rw [h2.1,List.take_succ_eq_append_getElem (by omega)]
  ·by_cases hk2:l.length<k
   ·exact stick (hB l h hk2)
   ·obtain ⟨s',e1,e2,e3⟩:=hA l h (by omega)
    have hl:l.drop k=[]:=by rw [List.drop_eq_nil_iff]; omega
    rw [hl] at e2
    have hs:s'=[]:=by
     refine Classical.byContradiction fun hs=>?_
     cases hb:(cU s').2.2 with
     | false=>rw [fa hs hb] at e2; cases e2
     | true =>
      rw [eE hs hb] at e2
      obtain ⟨l',_,h2⟩:=Option.map_eq_some_iff.1 e2
      cases h2
    subst hs
    rw [an,e1]
    exact nY qh
  ·rcases hC h with h1 | ⟨s',e1,e2,e3⟩
   ·exact .inl (stick h1)
   ·have hs:s'≠[]:=fun e=>by rw [e,eZ] at e2; cases e2
    rw [an,e1]
    cases hb:(cU s').2.2 with
    | false=>exact .inl (nY hb)
    | true =>
     obtain ⟨g1,g2,_⟩:=kX hb
     rw [eE hs hb] at e2
     refine .inr ⟨(cU s').2.1,by rw [g1],?_,by omega⟩
     cases hn:aV (cU s').2.1 with
     | none=>rfl
     | some l=>rw [hn] at e2; cases e2
theorem eI (l:List Int) (h:5≤l.length):aR l=kZ (l.take 5)::aR (l.drop 5):=by
 match l,h with
 | a::b::c::d::e::r,_=>rfl
theorem fk:∀ (n:Nat) (l:List Int),l.length≤n→(aR l).length=l.length / 5
 | n,l,hn=>by
  by_cases h:5≤l.length
  ·match n with
   | 0=>omega
   | n+1 =>
    rw [eI l h,List.length_cons,fk n (l.drop 5) (by simp; omega),List.length_drop]
    omega
  ·match l,h with
   | [],_=>rfl
   | [_],_=>simp [aR]
   | [_,_],_=>simp [aR]
   | [_,_,_],_=>simp [aR]
   | [_,_,_,_],_=>simp [aR]
   | _::_::_::_::_::_,h=>simp at h
theorem eD {r:Rd} {out:List eR} (h:¬ (r.1≠[]∧r.2=false)):aC r out=(out,r):=by rw [aC,dif_neg h]
theorem hY {r:Rd} {out:List eR} (h:r.1≠[]∧r.2=false):aC r out=aC (an 5 r).2 (out++[kZ (an 5 r).1]):=by
 rw [aC,dif_pos h]
theorem iV {r:Rd} {out:List eR} (h:r.2=true):(aC r out).2.2=true:=by
 rw [eD (by rw [h]; simp)]
 exact h
theorem fY:∀ (n:Nat) (s:List UInt8) (out:List eR),s.length≤n →
  (∀ l,aV s=some l→l.length % 5=0→(aC (s,false) out).1=out++aR l∧(aC (s,false) out).2.2=false) ∧
  (∀ l,aV s=some l→l.length % 5≠0→(aC (s,false) out).2.2=true)∧(aV s=none→(aC (s,false) out).2.2=true)
 | n,s,out,hn=>by
  by_cases hs:s=[]
  ·subst hs
   rw [eD (by simp),eZ]
   refine ⟨fun l h _=>?_,fun l h h2=>?_,fun h=>by cases h⟩
   ·simp only [Option.some.injEq] at h
    subst h
    simp [aR]
   ·simp only [Option.some.injEq] at h
    subst h
    simp at h2
  ·have hpos:0<s.length:=List.length_pos_iff.2 hs
   have hstep:aC (s,false) out=aC (an 5 (s,false)).2 (out++[kZ (an 5 (s,false)).1]):=hY ⟨hs,rfl⟩
   obtain ⟨hA,hB,hC⟩:=iQ s 5
   rw [hstep]
   match n with
   | 0=>omega
   | n+1 =>
    have nz:∀ l,aV s=some l→l≠[]:=fun l h e=>by
     subst e
     cases hb:(cU s).2.2 with
     | false=>rw [fa hs hb] at h; cases h
     | true =>
      rw [eE hs hb] at h
      obtain ⟨l',_,h2⟩:=Option.map_eq_some_iff.1 h
      cases h2
    refine ⟨fun l h h5=>?_,fun l h h5=>?_,fun h=>?_⟩
    ·have hl:5≤l.length:=by have:=List.length_pos_iff.2 (nz l h); omega
     obtain ⟨s',e1,e2,e3⟩:=hA l h hl
     rw [e1]
     obtain ⟨i1,_,_⟩:=fY n s' (out++[kZ (l.take 5)]) (by omega)
     obtain ⟨j1,j2⟩:=i1 _ e2 (by rw [List.length_drop]; omega)
     refine ⟨?_,j2⟩
     simp only at j1 ⊢
     rw [j1,eI l hl,List.append_assoc]
     rfl
    ·by_cases hl:5≤l.length
     ·obtain ⟨s',e1,e2,e3⟩:=hA l h hl
      rw [e1]
      exact (fY n s' (out++[kZ (l.take 5)]) (by omega)).2.1 _ e2 (by rw [List.length_drop]; omega)
     ·exact iV (hB l h (by omega))
    ·rcases hC h with h1 | ⟨s',e1,e2,e3⟩
     ·exact iV h1
     ·rw [e1]
      exact (fY n s' _ (by omega)).2.2 e2
end Go.Proofs.Ytcnoiiohmpgckaa
