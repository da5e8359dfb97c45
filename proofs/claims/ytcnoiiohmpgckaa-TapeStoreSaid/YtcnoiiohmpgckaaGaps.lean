
import Derived.Test.YtcnoiiohmpgckaaWalks
namespace Go.Proofs.Ytcnoiiohmpgckaa
open Go
set_option maxRecDepth 100000
set_option maxHeartbeats 1000000
abbrev uT:=Int×Int
def l8 (out:List uT) (n:Int):List uT:=out.set (out.length - 1) ((out.getD (out.length - 1) (0,0)).1,(out.getD (out.length - 1) (0,0)).2+n)
def fe:Bool→List uT→List aE→List uT
 | _,out,[]=>out
 | p,out,s::l=>fe s.2.2.2.2 (if s.2.2.2.2=true then (if p=true then l8 out (aj s.2) else out++[(s.1,aj s.2)]) else out) l
theorem fy (out:List uT) (n:Int):(l8 out n).length=out.length:=by simp [l8]
def mf:Int→Int→List aE→Prop
 | s,e,[]=>s=e
 | s,e,x::r=>x.1=s∧1≤aj x.2∧mf (s+aj x.2) e r
theorem tj (at_:Int) (l:List Int) (r:List aE) (h:spotsS at_ l=some r):mf at_ (at_+l.length) r:=by
 induction at_,l using spotsS.induct generalizing r with
 | case1 at_ =>
  simp only [spotsS,Option.some.injEq] at h
  subst h
  simp [mf]
 | case2 at_ v l hv ih =>
  rw [cP hv.1 hv.2] at h
  obtain ⟨r',hr,rfl⟩:=Option.map_eq_some_iff.1 h
  have hl:=cR hv.1
  have h2:=ih r' hr
  refine ⟨rfl,hl.1,?_⟩
  have e:at_+aj (au v)+(((v::l).drop (aj (au v)).toNat).length:Nat)=at_+((v::l).length:Nat):=by
   rw [List.length_drop]
   have:=hv.2
   omega
  rw [e] at h2
  exact h2
 | case3 at_ v l hv =>
  rw [cO hv] at h
  cases h
theorem hI {a:List Int} (h:(aa a).2=0):mf 0 a.length (aa a).1:=by
 unfold aa at h ⊢
 split at h
 ·simp at h
 rename_i cl
 rw [if_neg cl]
 cases e:spotsS 0 a with
 | none=>rw [e] at h; simp at h
 | some l =>
  have:=tj 0 a l e
  rw [Int.zero_add] at this
  exact this
end Go.Proofs.Ytcnoiiohmpgckaa
