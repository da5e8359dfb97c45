
import Derived.Test.YtcnoiiohmpgckaaRoots
namespace Go.Proofs.Ytcnoiiohmpgckaa
open Go
theorem bi {l:List Int} {n:Int}:bp l n=true ↔ n∈l:=by
 unfold bp
 rw [List.any_eq_true]
 exact ⟨fun ⟨x,h1,h2⟩=>of_decide_eq_true h2 ▸ h1,fun h=>⟨n,h,by simp⟩⟩
theorem fK (xs:List Int):(db xs).Pairwise (·≤·):=by
 have:=List.pairwise_mergeSort (le:=fun x y:Int=>decide (x≤y)) (fun a b c h1 h2=>by simp only [decide_eq_true_eq] at *; omega) (fun a b=>by simp only [Bool.or_eq_true,decide_eq_true_eq]; omega) xs
 exact this.imp (fun h=>of_decide_eq_true h)
theorem jt {xs:List Int} {x:Int}:x∈db xs ↔ x∈xs:=List.mem_mergeSort
theorem oJ (xs:List Int):(db xs).length=xs.length:=List.length_mergeSort _
theorem fw:∀ {l k:List Int},l.Pairwise (·<·)→k.Pairwise (·<·)→(∀ x,x∈l ↔ x∈k)→l=k
 | [],[],_,_,_=>rfl
 | [],y::k,_,_,h=>absurd ((h y).2 (by simp)) (by simp)
 | x::l,[],_,_,h=>absurd ((h x).1 (by simp)) (by simp)
 | x::l,y::k,hl,hk,h=>by
  obtain ⟨a1,a2⟩:=List.pairwise_cons.1 hl
  obtain ⟨b1,b2⟩:=List.pairwise_cons.1 hk
  have e:x=y:=by
   have h1:=(h x).1 (by simp)
   have h2:=(h y).2 (by simp)
   rcases List.mem_cons.1 h1 with h1 | h1
   ·exact h1
   ·rcases List.mem_cons.1 h2 with h2 | h2
    ·exact h2.symm
    ·have:=b1 x h1
     have:=a1 y h2
     omega
  subst e
  rw [fw a2 b2 (fun z=>⟨fun hz=>?_,fun hz=>?_⟩)]
  ·have:=(h z).1 (by simp [hz])
   rcases List.mem_cons.1 this with e | h1
   ·subst e
    exact absurd (a1 z hz) (by omega)
   ·exact h1
  ·have:=(h z).2 (by simp [hz])
   rcases List.mem_cons.1 this with e | h1
   ·subst e
    exact absurd (b1 z hz) (by omega)
   ·exact h1
theorem th (m:Nat):((List.range m).map Int.ofNat).Pairwise (·<·):=by
 rw [List.pairwise_map]
 exact List.pairwise_lt_range.imp (fun h=>by simp only [Int.ofNat_eq_natCast]; omega)
theorem ed (l:List Int) (m:Nat):(bv l m).Pairwise (·<·):=(th m).filter _
theorem fM {l:List Int} {m:Nat} {x:Int}:x∈bv l m ↔ 0≤x∧x<m∧x∈l:=by
 unfold bv
 rw [List.mem_filter,bi,List.mem_map]
 constructor
 ·rintro ⟨⟨j,hj,rfl⟩,hx⟩
  have:=List.mem_range.1 hj
  simp only [Int.ofNat_eq_natCast] at *
  exact ⟨by omega,by omega,hx⟩
 ·rintro ⟨h1,h2,h3⟩
  exact ⟨⟨x.toNat,List.mem_range.2 (by omega),by simp only [Int.ofNat_eq_natCast]; omega⟩,h3⟩
end Go.Proofs.Ytcnoiiohmpgckaa
