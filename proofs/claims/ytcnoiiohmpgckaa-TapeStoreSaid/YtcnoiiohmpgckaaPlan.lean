
import Derived.Test.YtcnoiiohmpgckaaLists
import Derived.Test.YtcnoiiohmpgckaaGapsSame
namespace Go.Proofs.Ytcnoiiohmpgckaa
open Go
set_option maxRecDepth 100000
set_option maxHeartbeats 1000000
def d5 (l:List aE) (at_:Int):Int:=aj (an at_ l).1
def dg (a keep pinned:List Int):List Int×Int :=
 if (ah a).2.2≠0 then ([],(ah a).2.2) else if (dd keep&&dd pinned)=false then ([],3)
 else if (keep.all (isB (aa a).1))=false then ([],5) else if (pinned.all (dw keep))=false then ([],5) else (keep.map (d5 (aa a).1),0)
def bw (pinned keep long:List Int):Nat→Int
 | 0=>0
 | i+1=>(if dw pinned (keep.getD i 0)=true then keep.getD i 0 else bw pinned keep long i)+long.getD i 0
def gE (pinned keep long:List Int) (i:Nat):Int:=if dw pinned (keep.getD i 0)=true then keep.getD i 0 else bw pinned keep long i
def di (keep long pinned:List Int):List Int:=(List.range keep.length).map (gE pinned keep long)
def n7 (keep long:List Int):Prop:=long.length=keep.length∧keep.length≤256∧(∀ x∈keep,0≤x∧x≤255)∧∀ n∈long,1≤n∧n≤256
theorem it {keep long:List Int} (pinned:List Int) (h:n7 keep long):∀ i:Nat,i≤keep.length→0≤bw pinned keep long i∧bw pinned keep long i≤512 * i
 | 0,_=>by simp [bw]
 | i+1,hi=>by
  have ih:=it pinned h i (by omega)
  obtain ⟨h1,h2,h3,h4⟩:=h
  have k1:=h3 _ (aU (0:Int) (xs:=keep) (i:=i) (by omega) (by omega))
  have k2:=h4 _ (aU (0:Int) (xs:=long) (i:=i) (by omega) (by omega))
  simp only [Int.toNat_natCast] at k1 k2
  simp only [bw]
  split <;> omega
theorem dS:∀ {l:List Int},dd l=true→l.Pairwise (·<·)
 | [],_=>List.Pairwise.nil
 | [x],_=>by simp
 | x::y::l,h=>by
  simp only [dd,Bool.and_eq_true,decide_eq_true_eq] at h
  have ih:=dS h.2
  refine List.pairwise_cons.2 ⟨fun z hz=>?_,ih⟩
  rcases List.mem_cons.1 hz with rfl | hz
  ·exact h.1
  ·have:=(List.pairwise_cons.1 ih).1 z hz
   omega
theorem fl:∀ {l:List Int} {s:Int},l.Pairwise (·<·)→(∀ x∈l,s≤x∧x≤255)→s≤256→(l.length:Int)≤256 - s
 | [],s,_,_,h=>by simp; omega
 | x::l,s,hp,hr,_=>by
  obtain ⟨h1,h2⟩:=List.pairwise_cons.1 hp
  have h3:=hr x (by simp)
  have ih:=fl (s:=x+1) h2 (fun y hy=>by have:=h1 y hy; have:=hr y (by simp [hy]); omega) (by omega)
  simp only [List.length_cons]
  omega
theorem pR {a:List Int} {at_:Int} (h:isB (aa a).1 at_=true):∃ s∈(aa a).1,s.1=at_∧s.2.2.2.2=false∧d5 (aa a).1 at_=aj s.2:=by
 unfold isB d5 at *
 rcases fQ at_ (aa a).1 with e | ⟨s,h1,h2,h3,e⟩
 ·rw [e] at h; cases h
 ·exact ⟨s,h1,h2,h3,by rw [e]⟩
theorem pK {a keep pinned:List Int} (h:(dg a keep pinned).2=0):(ah a).2.2=0∧dd keep=true∧dd pinned=true∧(∀ x∈keep,isB (aa a).1 x=true)∧(∀ x∈pinned,dw keep x=true)∧(dg a keep pinned).1=keep.map (d5 (aa a).1):=by
 unfold dg at *
 by_cases h1:(ah a).2.2≠0
 ·rw [if_pos h1] at h; exact absurd h h1
 rw [if_neg h1] at h ⊢
 by_cases h2:(dd keep&&dd pinned)=false
 ·rw [if_pos h2] at h; simp at h
 rw [if_neg h2] at h ⊢
 by_cases h3:(keep.all (isB (aa a).1))=false
 ·rw [if_pos h3] at h; simp at h
 rw [if_neg h3] at h ⊢
 by_cases h4:(pinned.all (dw keep))=false
 ·rw [if_pos h4] at h; simp at h
 rw [if_neg h4]
 have h2:dd keep=true∧dd pinned=true:=by simpa using h2
 have h3:keep.all (isB (aa a).1)=true:=by simpa using h3
 have h4:pinned.all (dw keep)=true:=by simpa using h4
 exact ⟨by omega,h2.1,h2.2,fun x hx=>List.all_eq_true.1 h3 x hx,fun x hx=>List.all_eq_true.1 h4 x hx,rfl⟩
theorem zE {a keep pinned:List Int} (h:(dg a keep pinned).2=0):n7 keep (dg a keep pinned).1:=by
 obtain ⟨_,h2,_,h4,_,h6⟩:=pK h
 have hr:∀ x∈keep,0≤x∧x≤255:=fun x hx=>by
  obtain ⟨s,h1,h2,_⟩:=pR (h4 x hx)
  have:=d8 s h1
  omega
 have hl:=fl (dS h2) hr (by omega)
 refine ⟨by rw [h6]; simp,by omega,hr,fun n hn=>?_⟩
 rw [h6] at hn
 obtain ⟨x,hx,rfl⟩:=List.mem_map.1 hn
 obtain ⟨s,h1,_,_,e⟩:=pR (h4 x hx)
 have hz:=bP (eD a s h1).2.2
 rw [e]
 unfold aj
 omega
def uk (pinned keep long:List Int):Nat→List uT
 | 0=>[]
 | i+1=>uk pinned keep long i++(if bw pinned keep long i<gE pinned keep long i then [(bw pinned keep long i,gE pinned keep long i - bw pinned keep long i)] else [])
def dy (n:Int) (keep long pinned:List Int):List uT:=uk pinned keep long keep.length++(if bw pinned keep long keep.length<n then [(bw pinned keep long keep.length,n - bw pinned keep long keep.length)] else [])
end Go.Proofs.Ytcnoiiohmpgckaa
