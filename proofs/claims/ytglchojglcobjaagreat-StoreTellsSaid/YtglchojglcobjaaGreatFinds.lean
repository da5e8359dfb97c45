
import Derived.Test.YtglchojglcobjaaGreatBase
namespace Go.Proofs.YtglchojglcobjaaGreat
open Go
def findFrom {α:Type} (f:α→Bool):Int→List α→Int
 | _,[]=>-1
 | k,x::l=>if f x then k else findFrom f (k+1) l
theorem findFrom_range {α:Type} (f:α→Bool):∀ (l:List α) (k:Int),findFrom f k l=-1∨(k≤findFrom f k l∧findFrom f k l<k+l.length)
 | [],_=>.inl rfl
 | x::l,k=>by
  have ih:=findFrom_range f l (k+1)
  simp only [findFrom,List.length_cons]
  split
  ·right; omega
  ·rcases ih with h | h
   ·exact .inl h
   ·right; omega
theorem findFrom_lt {α:Type} (f:α→Bool) (_:α) (l:List α) (k:Int) (_:0≤k):findFrom f k l<k+l.length:=by
 rcases findFrom_range f l k with h | h <;> omega
theorem findFrom_is {α:Type} (f:α→Bool) (d:α):∀ (l:List α) (k:Int),0≤findFrom f k l→0≤k→f (l.getD (findFrom f k l - k).toNat d)=true
 | [],_,h,_=>by simp [findFrom] at h
 | x::l,k,h,hk=>by
  have hr:=findFrom_range f l (k+1)
  have ih:=findFrom_is f d l (k+1)
  simp only [findFrom] at h ⊢
  split at h
  ·rename_i hx
   rw [if_pos hx]
   simpa using hx
  ·rename_i hx
   rw [if_neg hx]
   have:=ih h (by omega)
   rw [show (findFrom f (k+1) l - k).toNat=(findFrom f (k+1) l - (k+1)).toNat+1 by omega]
   simpa using this
theorem findFrom_any {α:Type} (f:α→Bool):∀ (l:List α) (k:Int),0≤k→(decide (0≤findFrom f k l)=l.any f)
 | [],_,_=>rfl
 | x::l,k,h=>by
  have ih:=findFrom_any f l (k+1) (by omega)
  simp only [findFrom,List.any_cons]
  by_cases hx:f x=true
  ·simp [hx,h]
  ·have hx:f x=false:=by simpa using hx
   simp only [hx,Bool.false_eq_true,if_false,Bool.false_or]
   exact ih
end Go.Proofs.YtglchojglcobjaaGreat
