
import Derived.Test.YtglchojglcobjaaGreatBase
namespace Go.Proofs.YtglchojglcobjaaGreat
open Go
def aj {α:Type} (f:α→Bool):Int→List α→Int
 | _,[]=>-1
 | k,x::l=>if f x then k else aj f (k+1) l
theorem iE {α:Type} (f:α→Bool):∀ (l:List α) (k:Int),aj f k l=-1∨(k≤aj f k l∧aj f k l<k+l.length)
 | [],_=>.inl rfl
 | x::l,k=>by
  have ih:=iE f l (k+1)
  simp only [aj,List.length_cons]
  split
  ·right; omega
  ·rcases ih with h | h
   ·exact .inl h
   ·right; omega
theorem dG {α:Type} (f:α→Bool) (_:α) (l:List α) (k:Int) (_:0≤k):aj f k l<k+l.length:=by
 rcases iE f l k with h | h <;> omega
theorem gL {α:Type} (f:α→Bool) (d:α):∀ (l:List α) (k:Int),0≤aj f k l→0≤k→f (l.getD (aj f k l - k).toNat d)=true
 | [],_,h,_=>by simp [aj] at h
 | x::l,k,h,hk=>by
  have hr:=iE f l (k+1)
  have ih:=gL f d l (k+1)
  simp only [aj] at h ⊢
  split at h
  ·rename_i hx
   rw [if_pos hx]
   simpa using hx
  ·rename_i hx
   rw [if_neg hx]
   have:=ih h (by omega)
   rw [show (aj f (k+1) l - k).toNat=(aj f (k+1) l - (k+1)).toNat+1 by omega]
   simpa using this
theorem cF {α:Type} (f:α→Bool):∀ (l:List α) (k:Int),0≤k→(decide (0≤aj f k l)=l.any f)
 | [],_,_=>rfl
 | x::l,k,h=>by
  have ih:=cF f l (k+1) (by omega)
  simp only [aj,List.any_cons]
  by_cases hx:f x=true
  ·simp [hx,h]
  ·have hx:f x=false:=by simpa using hx
   simp only [hx,Bool.false_eq_true,if_false,Bool.false_or]
   exact ih
end Go.Proofs.YtglchojglcobjaaGreat
