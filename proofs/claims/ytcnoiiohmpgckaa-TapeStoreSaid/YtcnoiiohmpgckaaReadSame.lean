
import Derived.Test.YtcnoiiohmpgckaaRStoreRead
namespace Go.Proofs.Ytcnoiiohmpgckaa
open Go
def eO (l:List Int) (r:Rd):Prop:=r.2=false∧c6 r.1=some l
def eu (r:Rd):Prop:=r.2=true∨c6 r.1=none
theorem tN {r:Rd} (h:r.2=false):r=(r.1,false):=by
 obtain ⟨s,b⟩:=r
 simp only at h
 rw [h]
theorem ca {r:Rd} (h:eu r):eu (ak r).2:=by
 cases hb:r.2
 ·rcases h with h | h
  ·rw [hb] at h; cases h
  have hs:r.1≠[]:=fun e=>by rw [e,fD] at h; cases h
  rw [tN hb]
  cases hn:(fr r.1).2.2
  ·exact .inl (yC hn)
  ·rw [(pD hn).1]
   right
   rw [gN hs hn] at h
   simpa using h
 ·have:r=(r.1,true):=by
   obtain ⟨s,b⟩:=r
   simp only at hb
   rw [hb]
  rw [this]
  exact .inl zB
theorem lz {r:Rd} (h:eO [] r):eu (ak r).2:=by
 rw [tN h.1]
 have hs:r.1=[]:=by
  apply Classical.byContradiction
  intro hs
  have h2:=h.2
  cases hn:(fr r.1).2.2
  ·rw [gO hs hn] at h2; cases h2
  ·rw [gN hs hn] at h2
   obtain ⟨l',_,e⟩:=Option.map_eq_some_iff.1 h2
   cases e
 rw [hs]
 exact .inl (yC BG)
theorem fa {v:Int} {l:List Int} {r:Rd} (h:eO (v::l) r):(ak r).1=v∧eO l (ak r).2:=by
 have hs:r.1≠[]:=fun e=>by
  have h2:=h.2
  rw [e,fD] at h2
  cases h2
 have h2:=h.2
 rw [tN h.1]
 cases hn:(fr r.1).2.2
 ·rw [gO hs hn] at h2; cases h2
 ·rw [gN hs hn] at h2
  obtain ⟨l',h3,e⟩:=Option.map_eq_some_iff.1 h2
  injection e with e1 e2
  subst e1 e2
  rw [(pD hn).1]
  exact ⟨rfl,rfl,h3⟩
theorem wq {l:List Int} {r:Rd} (h:eO l r):l.length≤r.1.length∧∀ x∈l,0≤x∧x<18446744073709551616:=jw r.1.length r.1 l (Nat.le_refl _) h.2
theorem AQ {r:Rd} (h:eO [] r):r=([],false):=by
 have hs:r.1=[]:=by
  apply Classical.byContradiction
  intro hs
  have h2:=h.2
  cases hn:(fr r.1).2.2
  ·rw [gO hs hn] at h2; cases h2
  ·rw [gN hs hn] at h2
   obtain ⟨l',_,e⟩:=Option.map_eq_some_iff.1 h2
   cases e
 rw [tN h.1,hs]
theorem qe {r:Rd} (h:eu (ak r).2):eu (ae r).2:=by
 unfold ae
 split
 ·exact .inl rfl
 ·rename_i hb
  have hb:((ak r).2.2||decide ((((ak r).2.1.length:Nat):Int)<(ak r).1))=false:=by simpa using hb
  rcases h with h | h
  ·rw [h] at hb; cases hb
  ·exact .inr h
theorem qd {v:Int} {l:List Int} {r:Rd} (h:eO (v::l) r) (hv:v≤((ak r).2.1.length:Int)):(ae r).1=v∧eO l (ae r).2:=by
 obtain ⟨h1,h2⟩:=fa h
 unfold ae
 rw [if_neg]
 ·exact ⟨h1,rfl,h2.2⟩
 ·rw [h1,h2.1,decide_eq_false (by omega)]
  simp
theorem gt {v:Int} {l:List Int} {r:Rd} (h:eO (v::l) r) (hd:¬ eu (ae r).2):(ae r).1=v∧eO l (ae r).2:=by
 by_cases hv:v≤((ak r).2.1.length:Int)
 ·exact qd h hv
 ·exfalso
  apply hd
  unfold ae
  rw [if_pos]
  ·exact .inl rfl
  ·rw [(fa h).1,decide_eq_true (by omega)]
   simp
theorem gW {l:List Int} {k:Nat} (h:k<l.length):l.drop k=l.getD k 0::l.drop (k+1):=by
 rw [List.drop_eq_getElem_cons h]
 simp [h]
theorem ke {r:Rd} (h:eu r):∀ k,eu (br k r).2
 | 0=>h
 | k+1=>ca (ke h k)
theorem eH {l:List Int} {r:Rd} (h:eO l r):∀ k,k≤l.length→(br k r).1=l.take k∧eO (l.drop k) (br k r).2
 | 0,_=>⟨by simp [br],by simpa [br] using h⟩
 | k+1,hk=>by
  obtain ⟨h1,h2⟩:=eH h k (by omega)
  rw [gW (by omega)] at h2
  obtain ⟨h3,h4⟩:=fa h2
  refine ⟨?_,h4⟩
  show (br k r).1++[(ak (br k r).2).1]=_
  rw [h1,h3,List.take_succ_eq_append_getElem (by omega)]
  simp [show k<l.length by omega]
theorem iS {l:List Int} {r:Rd} (h:eO l r):∀ k,l.length<k→eu (br k r).2
 | 0,hk=>by omega
 | k+1,hk=>by
  by_cases e:l.length<k
  ·exact ca (iS h k e)
  ·obtain ⟨_,h2⟩:=eH h k (by omega)
   rw [List.drop_of_length_le (by omega)] at h2
   exact lz h2
theorem kE {l:List Int} {k:Nat} {r:Rd} (h:eO (l.drop k) r) (hk:k+2≤l.length):(ak r).1=l.getD k 0∧(ak (ak r).2).1=l.getD (k+1) 0∧eO (l.drop (k+2)) (ak (ak r).2).2:=by
 rw [gW (by omega)] at h
 obtain ⟨h1,h2⟩:=fa h
 rw [gW (by omega)] at h2
 obtain ⟨h3,h4⟩:=fa h2
 exact ⟨h1,h3,h4⟩
theorem oR {l:List Int} {k:Nat} {r:Rd} (h:eO (l.drop k) r):(l.length≤k→eu (ak r).2)∧(l.length≤k+1→eu (ak (ak r).2).2)∧(l.length≤k+2→eu (ak (ak (ak r).2).2).2):=by
 have a0:l.length≤k→eu (ak r).2:=fun hk=>by
  rw [List.drop_of_length_le hk] at h
  exact lz h
 have a1:l.length≤k+1→eu (ak (ak r).2).2:=fun hk=>by
  by_cases e:l.length≤k
  ·exact ca (a0 e)
  ·rw [gW (by omega),List.drop_of_length_le (by omega)] at h
   exact lz (fa h).2
 refine ⟨a0,a1,fun hk=>?_⟩
 by_cases e:l.length≤k+1
 ·exact ca (a1 e)
 ·obtain ⟨_,_,h3⟩:=kE h (by omega)
  rw [List.drop_of_length_le (by omega)] at h3
  exact lz h3
theorem sB {r:Rd} (h:eu r):∀ k,eu (bG k r).2
 | 0=>h
 | k+1=>ca (ca (sB h k))
theorem js {l:List Int} {r:Rd} (h:eO l r):∀ k,2 * k≤l.length→(bG k r).1=fM l k∧eO (l.drop (2 * k)) (bG k r).2
 | 0,_=>⟨by simp [bG,fM],by simpa [bG] using h⟩
 | k+1,hk=>by
  obtain ⟨h1,h2⟩:=js h k (by omega)
  obtain ⟨h3,h4,h5⟩:=kE h2 (by omega)
  refine ⟨?_,h5⟩
  show (bG k r).1++[(IntKind.i64.wrap (ak (bG k r).2).1,IntKind.i64.wrap (ak (ak (bG k r).2).2).1)]=_
  rw [h1,h3,h4,pr]
theorem pq {l:List Int} {r:Rd} (h:eO l r):∀ k,l.length<2 * k→eu (bG k r).2
 | 0,hk=>by omega
 | k+1,hk=>by
  by_cases e:l.length<2 * k
  ·exact ca (ca (pq h k e))
  ·obtain ⟨_,h2⟩:=js h k (by omega)
   exact (oR h2).2.1 (by omega)
def xF (l:List Int) (k:Nat):Prop:=∀ j,j<k→l.getD (3 * j+1) 0≤1
theorem oW {r:Rd} (h:eu r):∀ k,eu (aT k r).2
 | 0=>h
 | k+1=>by
  rcases ca (ca (ca (oW h k))) with g | g
  ·exact .inl (show (_||_)=true by rw [g,Bool.true_or])
  ·exact .inr g
theorem hZ {l:List Int} {r:Rd} (h:eO l r):∀ k,3 * k≤l.length→xF l k→(aT k r).1=dZ l k∧eO (l.drop (3 * k)) (aT k r).2
 | 0,_,_=>⟨by simp [aT,dZ],by simpa [aT] using h⟩
 | k+1,hk,ho=>by
  obtain ⟨h1,h2⟩:=hZ h k (by omega) (fun j hj=>ho j (by omega))
  obtain ⟨h3,h4,h5⟩:=kE h2 (by omega)
  rw [gW (by omega)] at h5
  obtain ⟨h6,h7⟩:=fa h5
  have hop:=ho k (by omega)
  refine ⟨?_,?_,h7.2⟩
  ·show (aT k r).1++[(IntKind.i64.wrap (ak (aT k r).2).1,decide ((ak (ak (aT k r).2).2).1=1),IntKind.i64.wrap (ak (ak (ak (aT k r).2).2).2).1)]=_
   rw [h1,h3,h4,h6,nc]
  ·show (_||decide (1<(ak (ak (aT k r).2).2).1))=false
   rw [h7.1,h4,decide_eq_false (by omega)]
   rfl
theorem nb {l:List Int} {r:Rd} (h:eO l r):∀ k,¬ eu (aT k r).2→3 * k≤l.length∧xF l k
 | 0,_=>⟨by omega,fun j hj=>by omega⟩
 | k+1,hd=>by
  have hd0:¬ eu (aT k r).2:=fun g=>hd (by
   rcases ca (ca (ca g)) with g | g
   ·exact .inl (show (_||_)=true by rw [g,Bool.true_or])
   ·exact .inr g)
  obtain ⟨k1,k2⟩:=nb h k hd0
  obtain ⟨_,h2⟩:=hZ h k k1 k2
  have hlen:3 * (k+1)≤l.length:=by
   apply Classical.byContradiction
   intro hn
   apply hd
   rcases (oR h2).2.2 (by omega) with g | g
   ·exact .inl (show (_||_)=true by rw [g,Bool.true_or])
   ·exact .inr g
  refine ⟨hlen,fun j hj=>?_⟩
  by_cases e:j<k
  ·exact k2 j e
  ·obtain rfl:j=k:=by omega
   obtain ⟨_,h4,_⟩:=kE h2 (by omega)
   apply Classical.byContradiction
   intro hn
   exact hd (.inl (show (_||decide (1<(ak (ak (aT j r).2).2).1))=true by rw [h4,decide_eq_true (by omega),Bool.or_true]))
def BA (w r p h:Nat) (l:List Int):aD:=(l.take w,((l.drop w).take r).map gJ,fM ((l.drop w).drop r) p,dZ (((l.drop w).drop r).drop (2 * p)) h)
end Go.Proofs.Ytcnoiiohmpgckaa
