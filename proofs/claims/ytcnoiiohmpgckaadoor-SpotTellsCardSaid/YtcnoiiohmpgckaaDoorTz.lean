
import Derived.Test.YtcnoiiohmpgckaaDoorBase
import Derived.WalkKit
import Derived.Shelf.Spec.TrailingZeros
namespace Go.Proofs.YtcnoiiohmpgckaaDoor
open Go Go.RowKit
set_option maxHeartbeats 4000000
theorem pI {w:World} (h:Laid w) (j:Nat) (hj:j<64):w.cell? ⟨0,j,none⟩=some (.int .u8 (Lib.deBruijn64tab.getD j 0:Nat)):=by
 have hall:((List.range 64).all fun j=>decide ((0,j,((Lib.deBruijn64tab.getD j 0:Nat):Int))∈tabs.map fun t=>(t.1,t.2.1,match t.2.2 with | .int _ n=>n | _=>-1)))=true:=by decide +kernel
 have hm:=of_decide_eq_true (List.all_eq_true.1 hall j (List.mem_range.2 hj))
 obtain ⟨t,ht,e⟩:=List.mem_map.1 hm
 have hk:∀ t∈tabs,∃ n,t.2.2=.int .u8 n:=fun t ht=>by
  obtain ⟨x,_,rfl⟩:=List.mem_map.1 ht
  exact ⟨_,rfl⟩
 obtain ⟨n,hn⟩:=hk t ht
 have:=h t ht
 simp only [Prod.mk.injEq] at e
 rw [e.1,e.2.1,hn] at this
 rw [this,← e.2.2,hn]
theorem qH (x k idx:Nat) (w:World) (hx0:((x:Int) == 0)=false)
  (key:IntKind.u64.wrap (bits BinOp.and IntKind.u64 (x:Int) (IntKind.u64.wrap (-(x:Int))) * 285870213051353865) / 288230376151711744=(idx:Int))
  (hi:idx<64) (hk:k<64) (hcell:w.cell? ⟨0,idx,none⟩=some (.int .u8 k)) :
  Calls Tryd.prog 24 #[.int .u64 x] w fun e w'=>e=.returned (.int .i64 k)∧w'=w:=by
 go_enter Tryd.func24,Tryd.ntmps24
 go_wp2_with (simp only [key])
 go_ret
 exact ⟨rfl,rfl⟩
theorem qG (w:World):Calls Tryd.prog 24 #[.int .u64 0] w fun e w'=>e=.returned (.int .i64 64)∧w'=w:=by
 go_enter Tryd.func24,Tryd.ntmps24
 go_wp2
 go_ret
 exact ⟨rfl,rfl⟩
theorem rq (x:Nat) (hx:x<18446744073709551616) (w:World) (h:Laid w):Calls Tryd.prog 24 #[.int .u64 x] w fun e w'=>e=.returned (.int .i64 (Lib.ctz 64 x:Nat))∧w'=w:=by
 by_cases hx0:x=0
 ·subst hx0
  exact qG w
 ·obtain ⟨hlow,hk⟩:=Lib.lowest_bit 64 x hx0 hx
  obtain ⟨hi,htab⟩:=Lib.deBruijn64_at _ hk
  have hi:_<64:=hi
  have hcell:=pI h _ hi
  rw [htab] at hcell
  exact qH x _ _ w (by simp; omega) (tz64_key x _ hx hx0 hlow) hi hk hcell
theorem jA:∀ f x:Nat,Lib.ctzFrom f x≤f
 | 0,_=>by simp [Lib.ctzFrom]
 | f+1,x=>by
  unfold Lib.ctzFrom
  split
  ·omega
  ·have:=jA f (x / 2)
   omega
theorem nX (n:Nat):Lib.ctz 64 n≤64:=by
 unfold Lib.ctz
 split
 ·omega
 ·exact jA 64 n
def og:Spec:={ Ts:=[bT],Rs:=[.dat ar],pre:=fun _=>True,F:=fun (x:Int)=>((Lib.ctz 64 x.toNat:Nat):Int) }
theorem qQ:og.ok Tryd.prog 24:=by
 intro p w vs x hL hA hargs _
 obtain ⟨val,rfl,hv⟩:=hargs
 obtain ⟨e,hr⟩:[val]=[Value.int .u64 x]∧ao .u64 x:=hv
 obtain rfl:=(List.cons.inj e).1
 obtain ⟨n,rfl⟩:=Int.eq_ofNat_of_zero_le hr.1
 refine (rq n (by have:=hr.2; omega) w hL).mono ?_
 rintro e w' ⟨rfl,rfl⟩
 refine ⟨[.int .i64 (Lib.ctz 64 n:Nat)],fun _=>none,rfl,⟨rfl,rfl,rfl,Nat.le_refl _,fun _ _ _=>rfl⟩,fun _ _ h=>(by cases h),fun _ _ h=>(by cases h),?_⟩
 have hb:Lib.ctz 64 n≤64:=nX n
 have hF:og.F (n:Int)=((Lib.ctz 64 n:Nat):Int):=by
  show ((Lib.ctz 64 ((n:Int)).toNat:Nat):Int)=_
  rw [Int.toNat_natCast]
 have hin:ao .i64 ((Lib.ctz 64 n:Nat):Int):=by
  simp only [ao]
  omega
 rw [hF]
 exact ⟨_,rfl,⟨rfl,hin⟩,fun b hb=>by cases hb⟩
end Go.Proofs.YtcnoiiohmpgckaaDoor
