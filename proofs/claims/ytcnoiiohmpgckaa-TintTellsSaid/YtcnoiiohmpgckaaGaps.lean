
import Derived.Test.YtcnoiiohmpgckaaWalks
namespace Go.Proofs.Ytcnoiiohmpgckaa
open Go
set_option maxRecDepth 100000
set_option maxHeartbeats 1000000
def sr:Int→Int→List aJ→Prop
 | s,e,[]=>s=e
 | s,e,x::r=>x.1=s∧1≤af x.2∧sr (s+af x.2) e r
theorem pw (at_:Int) (l:List Int) (r:List aJ) (h:spotsS at_ l=some r):sr at_ (at_+l.length) r:=by
 induction at_,l using spotsS.induct generalizing r with
 | case1 at_ =>
  simp only [spotsS,Option.some.injEq] at h
  subst h
  simp [sr]
 | case2 at_ v l hv ih =>
  rw [cT hv.1 hv.2] at h
  obtain ⟨r',hr,rfl⟩:=Option.map_eq_some_iff.1 h
  have hl:=cA hv.1
  have h2:=ih r' hr
  refine ⟨rfl,hl.1,?_⟩
  have e:at_+af (aq v)+(((v::l).drop (af (aq v)).toNat).length:Nat)=at_+((v::l).length:Nat):=by
   rw [List.length_drop]
   have:=hv.2
   omega
  rw [e] at h2
  exact h2
 | case3 at_ v l hv =>
  rw [cw hv] at h
  cases h
theorem px {a:List Int} (h:(aa a).2=0):sr 0 a.length (aa a).1:=by
 unfold aa at h ⊢
 split at h
 ·simp at h
 rename_i cl
 rw [if_neg cl]
 cases e:spotsS 0 a with
 | none=>rw [e] at h; simp at h
 | some l =>
  have:=pw 0 a l e
  rw [Int.zero_add] at this
  exact this
end Go.Proofs.Ytcnoiiohmpgckaa
