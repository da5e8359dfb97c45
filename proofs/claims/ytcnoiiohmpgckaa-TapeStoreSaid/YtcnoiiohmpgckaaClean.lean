
import Derived.Test.YtcnoiiohmpgckaaSlideLaw
import Derived.Test.YtcnoiiohmpgckaaReaches
import Derived.Test.YtcnoiiohmpgckaaConcats
namespace Go.Proofs.Ytcnoiiohmpgckaa
open Go
set_option maxRecDepth 100000
set_option maxHeartbeats 1000000
theorem fk:∀ {l:List Int},l.Pairwise (·<·)→dd l=true
 | [],_=>rfl
 | [_],_=>rfl
 | x::y::l,h=>by
  obtain ⟨h1,h2⟩:=List.pairwise_cons.1 h
  simp only [dd,Bool.and_eq_true,decide_eq_true_eq]
  exact ⟨h1 y (by simp),fk h2⟩
theorem nL {a f p:List Int} (hw:∀ x∈a,am .u64 x) (h:bc a (f++p)=0) (hp:dd p=true):dg a (b9 a (f++p)) p=((b9 a (f++p)).map (d5 (aa a).1),0):=by
 obtain ⟨h1,h2⟩:=fv h
 have hr:=fun x=>jr (a:=a) (from_:=f++p) hw h1 h2 (x:=x)
 have e1:dd (b9 a (f++p))=true:=fk (kf _ _)
 have e2:(b9 a (f++p)).all (isB (aa a).1)=true:=List.all_eq_true.2 fun x hx=>((hr x).1 hx).isB hw h1 h2
 have e3:p.all (dw (b9 a (f++p)))=true:=List.all_eq_true.2 fun x hx=>cT.2 ((hr x).2 (.base (by simp [hx])))
 unfold dg
 rw [if_neg (by omega),e1,hp,e2,e3]
 simp
theorem qg {a f p:List Int} (hw:∀ x∈a,am .u64 x) (h:bc a (f++p)=0) (to:List Int):((b9 a (f++p)).all fun x=>ws (b9 a (f++p)) to (gn a x))=true:=by
 obtain ⟨h1,h2⟩:=fv h
 have hr:=fun x=>jr (a:=a) (from_:=f++p) hw h1 h2 (x:=x)
 refine List.all_eq_true.2 fun x hx=>List.all_eq_true.2 fun v hv=>?_
 unfold pf
 by_cases h0:v=0
 ·rw [if_pos h0]; rfl
 ·have h3:v - 1∈iz a x:=by
   unfold iz
   exact List.mem_map.2 ⟨v,List.mem_filter.2 ⟨hv,by simpa using h0⟩,rfl⟩
  rw [if_neg h0,if_pos (cT.2 ((hr _).2 (.step ((hr _).1 hx) h3)))]
  rfl
def Bh (a f p:List Int):List Int×List Int×Int :=
 if bc a (f++p)≠0 then ([],[],bc a (f++p)) else
 if dd p=false then ([],[],3) else
 ((xq a (b9 a (f++p)) p).1,f.map fun x=>(di (b9 a (f++p)) ((b9 a (f++p)).map (d5 (aa a).1)) p).getD (d9 (b9 a (f++p)) x).toNat 0,0)
theorem AB {l:List Int} {x:Int} (h:x∈l):0≤d9 l x∧d9 l x<l.length:=by
 have h1:=er (fun y=>decide (y=x)) l 0 (by omega)
 have h2:=gp (fun y=>decide (y=x)) x l 0 (by omega)
 have h3:(l.any fun y=>decide (y=x))=true:=cT.2 h
 rw [h3] at h1
 exact ⟨of_decide_eq_true h1,by unfold d9; omega⟩
theorem wS {a f p:List Int} (hw:∀ x∈a,am .u64 x) (h:bc a (f++p)=0) (hp:dd p=true) :
  xq a (b9 a (f++p)) p=((vC a (b9 a (f++p)) p).1,di (b9 a (f++p)) ((b9 a (f++p)).map (d5 (aa a).1)) p,0)∧(vC a (b9 a (f++p)) p).2=true:=by
 have e:=nL hw h hp
 have hg:=qg hw h (di (b9 a (f++p)) ((b9 a (f++p)).map (d5 (aa a).1)) p)
 unfold xq vC
 rw [e]
 simp only
 rw [if_neg (by omega),if_pos hg,if_pos hg]
 exact ⟨rfl,rfl⟩
end Go.Proofs.Ytcnoiiohmpgckaa
