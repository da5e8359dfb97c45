
import Derived.Test.YtcnoiiohmpgckaaRoots
namespace Go.Proofs.Ytcnoiiohmpgckaa
open Go
theorem cT {l:List Int} {n:Int}:dw l n=true ↔ n∈l:=by
 unfold dw
 rw [List.any_eq_true]
 exact ⟨fun ⟨x,h1,h2⟩=>of_decide_eq_true h2 ▸ h1,fun h=>⟨n,h,by simp⟩⟩
theorem fV (d:Array Int) (hd:∀ i j,i<j→j<d.size→d[i]!≤d[j]!):∀ m,m≤d.size →
  (Lib.compactUpTo d m).Pairwise (·<·)∧(∀ x∈Lib.compactUpTo d m,∃ j,j<m∧x=d[j]!)∧∀ j,j<m→d[j]!∈Lib.compactUpTo d m
 | 0,_=>by
  have e:Lib.compactUpTo d 0=[]:=rfl
  rw [e]
  exact ⟨.nil,fun x hx=>(by cases hx),fun j hj=>by omega⟩
 | m+1,hm=>by
  obtain ⟨h1,h2,h3⟩:=fV d hd m (by omega)
  rw [Lib.compactUpTo_succ]
  cases hk:Lib.keeps d m
  ·simp only [Bool.false_eq_true,if_false,List.append_nil]
   have hk:¬ (m=0∨d[m]!≠d[m - 1]!):=of_decide_eq_false hk
   refine ⟨h1,fun x hx=>?_,fun j hj=>?_⟩
   ·obtain ⟨j,hj,e⟩:=h2 x hx
    exact ⟨j,by omega,e⟩
   ·by_cases hjm:j=m
    ·subst hjm
     have e:d[j]! = d[j - 1]!:=Classical.byContradiction fun h=>hk (.inr h)
     rw [e]
     exact h3 _ (by omega)
    ·exact h3 j (by omega)
  ·simp only [if_true]
   have hk:m=0∨d[m]!≠d[m - 1]!:=of_decide_eq_true hk
   refine ⟨List.pairwise_append.2 ⟨h1,List.pairwise_singleton _ _,fun x hx y hy=>?_⟩,fun x hx=>?_,fun j hj=>?_⟩
   ·rw [List.mem_singleton.1 hy]
    obtain ⟨j,hj,e⟩:=h2 x hx
    subst e
    have h5:=hd (m - 1) m (by omega) (by omega)
    by_cases hjm:j=m - 1
    ·subst hjm
     omega
    ·have:=hd j (m - 1) (by omega) (by omega)
     omega
   ·rcases List.mem_append.1 hx with hx | hx
    ·obtain ⟨j,hj,e⟩:=h2 x hx
     exact ⟨j,by omega,e⟩
    ·exact ⟨m,by omega,List.mem_singleton.1 hx⟩
   ·by_cases hjm:j=m
    ·subst hjm
     simp
    ·exact List.mem_append_left _ (h3 j (by omega))
theorem kK (xs:List Int):(dG xs).Pairwise (·≤·):=by
 have:=List.pairwise_mergeSort (le:=fun x y:Int=>decide (x≤y)) (fun a b c h1 h2=>by simp only [decide_eq_true_eq] at *; omega) (fun a b=>by simp only [Bool.or_eq_true,decide_eq_true_eq]; omega) xs
 exact this.imp (fun h=>of_decide_eq_true h)
theorem r8 {xs:List Int} {x:Int}:x∈dG xs ↔ x∈xs:=List.mem_mergeSort
theorem hY (xs:List Int):(dG xs).length=xs.length:=List.length_mergeSort _
theorem n4 {xs:List Int} (h:xs.Pairwise (·≤·)):(dr xs).Pairwise (·<·)∧∀ x,x∈dr xs ↔ x∈xs:=by
 have hd:∀ i j,i<j→j<xs.toArray.size→xs.toArray[i]!≤xs.toArray[j]!:=by
  intro i j hij hj
  have hj:j<xs.length:=by simpa using hj
  have:=List.pairwise_iff_getElem.1 h i j (by omega) hj hij
  simpa [show i<xs.length by omega,hj] using this
 obtain ⟨h1,h2,h3⟩:=fV xs.toArray hd xs.length (by simp)
 refine ⟨h1,fun x=>⟨fun hx=>nI xs x hx,fun hx=>?_⟩⟩
 obtain ⟨j,hj,e⟩:=List.getElem_of_mem hx
 have:=h3 j hj
 simp only [List.getElem!_toArray,hj,getElem!_pos,e] at this
 exact this
theorem zK (m:Nat):((List.range m).map Int.ofNat).Pairwise (·<·):=by
 rw [List.pairwise_map]
 exact List.pairwise_lt_range.imp (fun h=>by simp only [Int.ofNat_eq_natCast]; omega)
theorem vJ (l:List Int) (m:Nat):(bz l m).Pairwise (·<·):=(zK m).filter _
theorem ib {l:List Int} {m:Nat} {x:Int}:x∈bz l m ↔ 0≤x∧x<m∧x∈l:=by
 unfold bz
 rw [List.mem_filter,cT,List.mem_map]
 constructor
 ·rintro ⟨⟨j,hj,rfl⟩,hx⟩
  have:=List.mem_range.1 hj
  simp only [Int.ofNat_eq_natCast] at *
  exact ⟨by omega,by omega,hx⟩
 ·rintro ⟨h1,h2,h3⟩
  exact ⟨⟨x.toNat,List.mem_range.2 (by omega),by simp only [Int.ofNat_eq_natCast]; omega⟩,h3⟩
end Go.Proofs.Ytcnoiiohmpgckaa
