
import Derived.Test.YtcnoiiohmpgckaaWalks
namespace Go.Proofs.Ytcnoiiohmpgckaa
open Go
set_option maxRecDepth 100000
set_option maxHeartbeats 1000000
def bn (a:List Int) (at_ n:Int):List Int:=if 0<n then (dL a at_ n 0 n).set at_.toNat (bh (0,n - 1,0,true)) else a
def eh (a:List Int) (at_ n:Int):Prop:=0≤at_∧0≤n∧at_+n≤a.length∧a.length≤256
theorem wn {a:List Int} {at_ n v:Int} (h:eh a at_ n):gx a at_ n v=(dL a at_ n v n,0):=by
 obtain ⟨h1,h2,h3,h4⟩:=h
 have:cj a.length n [at_]=0:=by
  rw [rc,if_neg (by omega),if_pos]
  rw [gU]
  omega
 unfold gx
 rw [if_pos this]
theorem lA {a:List Int} {at_ n:Int} (h:eh a at_ n):(bn a at_ n).length=a.length:=by
 obtain ⟨p1,p2,p3,p4⟩:=h
 unfold bn
 split
 ·rw [List.length_set]
  exact de a at_ n 0 n p1 p3 p2 (by omega)
 ·rfl
def pk:Int→Int→List aN→Prop
 | s,e,[]=>s=e
 | s,e,x::r=>x.1=s∧1≤ah x.2∧pk (s+ah x.2) e r
theorem pI (at_:Int) (l:List Int) (r:List aN) (h:spotsS at_ l=some r):pk at_ (at_+l.length) r:=by
 induction at_,l using spotsS.induct generalizing r with
 | case1 at_ =>
  simp only [spotsS,Option.some.injEq] at h
  subst h
  simp [pk]
 | case2 at_ v l hv ih =>
  rw [cY hv.1 hv.2] at h
  obtain ⟨r',hr,rfl⟩:=Option.map_eq_some_iff.1 h
  have hl:=cw hv.1
  have h2:=ih r' hr
  refine ⟨rfl,hl.1,?_⟩
  have e:at_+ah (am v)+(((v::l).drop (ah (am v)).toNat).length:Nat)=at_+((v::l).length:Nat):=by
   rw [List.length_drop]
   have:=hv.2
   omega
  rw [e] at h2
  exact h2
 | case3 at_ v l hv =>
  rw [cr hv] at h
  cases h
theorem pJ {a:List Int} (h:(aa a).2=0):pk 0 a.length (aa a).1:=by
 unfold aa at h ⊢
 split at h
 ·simp at h
 rename_i cl
 rw [if_neg cl]
 cases e:spotsS 0 a with
 | none=>rw [e] at h; simp at h
 | some l =>
  have:=pI 0 a l e
  rw [Int.zero_add] at this
  exact this
end Go.Proofs.Ytcnoiiohmpgckaa
