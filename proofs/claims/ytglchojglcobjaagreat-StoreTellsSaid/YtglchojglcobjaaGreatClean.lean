
import Derived.Test.YtglchojglcobjaaGreatSlideLaw
import Derived.Test.YtglchojglcobjaaGreatReaches
import Derived.Test.YtglchojglcobjaaGreatConcats
namespace Go.Proofs.YtglchojglcobjaaGreat
open Go
set_option maxRecDepth 100000
set_option maxHeartbeats 1000000
theorem pairwise_risesL:∀ {l:List Int},l.Pairwise (·<·)→risesL l=true
 | [],_=>rfl
 | [_],_=>rfl
 | x::y::l,h=>by
  obtain ⟨h1,h2⟩:=List.pairwise_cons.1 h
  simp only [risesL,Bool.and_eq_true,decide_eq_true_eq]
  exact ⟨h1 y (by simp),pairwise_risesL h2⟩
theorem clean_longs {a f p:List Int} (hw:∀ x∈a,InR .u64 x) (h:fromFault a (f++p)=0) (hp:risesL p=true):longsF a (reachL a (f++p)) p=((reachL a (f++p)).map (lgOf (spotsF a).1),0):=by
 obtain ⟨h1,h2⟩:=fromFault_ok h
 have hr:=fun x=>reach_mem (a:=a) (from_:=f++p) hw h1 h2 (x:=x)
 have e1:risesL (reachL a (f++p))=true:=pairwise_risesL (reach_rise _ _)
 have e2:(reachL a (f++p)).all (isB (spotsF a).1)=true:=List.all_eq_true.2 fun x hx=>((hr x).1 hx).isB hw h1 h2
 have e3:p.all (inL (reachL a (f++p)))=true:=List.all_eq_true.2 fun x hx=>inL_iff.2 ((hr x).2 (.base (by simp [hx])))
 unfold longsF
 rw [if_neg (by omega),e1,hp,e2,e3]
 simp
theorem clean_good {a f p:List Int} (hw:∀ x∈a,InR .u64 x) (h:fromFault a (f++p)=0) (to:List Int):((reachL a (f++p)).all fun x=>goodR (reachL a (f++p)) to (refsA a x))=true:=by
 obtain ⟨h1,h2⟩:=fromFault_ok h
 have hr:=fun x=>reach_mem (a:=a) (from_:=f++p) hw h1 h2 (x:=x)
 refine List.all_eq_true.2 fun x hx=>List.all_eq_true.2 fun v hv=>?_
 unfold refTo
 by_cases h0:v=0
 ·rw [if_pos h0]; rfl
 ·have h3:v - 1∈outsA a x:=by
   unfold outsA
   exact List.mem_map.2 ⟨v,List.mem_filter.2 ⟨hv,by simpa using h0⟩,rfl⟩
  rw [if_neg h0,if_pos (inL_iff.2 ((hr _).2 (.step ((hr _).1 hx) h3)))]
  rfl
def cleanF (a f p:List Int):List Int×List Int×Int :=
 if fromFault a (f++p)≠0 then ([],[],fromFault a (f++p)) else
 if risesL p=false then ([],[],3) else
 ((slideF a (reachL a (f++p)) p).1,f.map fun x=>(planS (reachL a (f++p)) ((reachL a (f++p)).map (lgOf (spotsF a).1)) p).getD (place (reachL a (f++p)) x).toNat 0,0)
theorem place_in {l:List Int} {x:Int} (h:x∈l):0≤place l x∧place l x<l.length:=by
 have h1:=findFrom_any (fun y=>decide (y=x)) l 0 (by omega)
 have h2:=findFrom_lt (fun y=>decide (y=x)) x l 0 (by omega)
 have h3:(l.any fun y=>decide (y=x))=true:=inL_iff.2 h
 rw [h3] at h1
 exact ⟨of_decide_eq_true h1,by unfold place; omega⟩
theorem clean_slide {a f p:List Int} (hw:∀ x∈a,InR .u64 x) (h:fromFault a (f++p)=0) (hp:risesL p=true) :
  slideF a (reachL a (f++p)) p=((slidR a (reachL a (f++p)) p).1,planS (reachL a (f++p)) ((reachL a (f++p)).map (lgOf (spotsF a).1)) p,0)∧(slidR a (reachL a (f++p)) p).2=true:=by
 have e:=clean_longs hw h hp
 have hg:=clean_good hw h (planS (reachL a (f++p)) ((reachL a (f++p)).map (lgOf (spotsF a).1)) p)
 unfold slideF slidR
 rw [e]
 simp only
 rw [if_neg (by omega),if_pos hg,if_pos hg]
 exact ⟨rfl,rfl⟩
end Go.Proofs.YtglchojglcobjaaGreat
