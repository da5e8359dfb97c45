
import Derived.Test.YtcnoiiohmpgckaaBase
namespace Go.Proofs.Ytcnoiiohmpgckaa
open Go
def ag {α:Type} (f:α→Bool):Int→List α→Int
 | _,[]=>-1
 | k,x::l=>if f x then k else ag f (k+1) l
theorem fS {α:Type} (f:α→Bool):∀ (l:List α) (k:Int),ag f k l=-1∨(k≤ag f k l∧ag f k l<k+l.length)
 | [],_=>.inl rfl
 | x::l,k=>by
  have ih:=fS f l (k+1)
  simp only [ag,List.length_cons]
  split
  ·right; omega
  ·rcases ih with h | h
   ·exact .inl h
   ·right; omega
theorem gp {α:Type} (f:α→Bool) (_:α) (l:List α) (k:Int) (_:0≤k):ag f k l<k+l.length:=by
 rcases fS f l k with h | h <;> omega
theorem ja {α:Type} (f:α→Bool) (d:α):∀ (l:List α) (k:Int),0≤ag f k l→0≤k→f (l.getD (ag f k l - k).toNat d)=true
 | [],_,h,_=>by simp [ag] at h
 | x::l,k,h,hk=>by
  have hr:=fS f l (k+1)
  have ih:=ja f d l (k+1)
  simp only [ag] at h ⊢
  split at h
  ·rename_i hx
   rw [if_pos hx]
   simpa using hx
  ·rename_i hx
   rw [if_neg hx]
   have:=ih h (by omega)
   rw [show (ag f (k+1) l - k).toNat=(ag f (k+1) l - (k+1)).toNat+1 by omega]
   simpa using this
theorem er {α:Type} (f:α→Bool):∀ (l:List α) (k:Int),0≤k→(decide (0≤ag f k l)=l.any f)
 | [],_,_=>rfl
 | x::l,k,h=>by
  have ih:=er f l (k+1) (by omega)
  simp only [ag,List.any_cons]
  by_cases hx:f x=true
  ·simp [hx,h]
  ·have hx:f x=false:=by simpa using hx
   simp only [hx,Bool.false_eq_true,if_false,Bool.false_or]
   exact ih
end Go.Proofs.Ytcnoiiohmpgckaa
