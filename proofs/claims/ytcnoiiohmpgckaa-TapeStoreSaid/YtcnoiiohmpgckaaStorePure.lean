
import Derived.Test.YtcnoiiohmpgckaaJoinPure
import Derived.Test.YtcnoiiohmpgckaaStores
namespace Go.Proofs.Ytcnoiiohmpgckaa
open Go
def de (s:aD):List Int:=s.2.2.1.map (·.1)
def eA (s:aD):List Int:=b9 s.1 (cf s++de s)
def nB (s:aD):List Int:=(eA s).map (d5 (aa s.1).1)
def CJ (s:aD) (x:Int):Int:=(di (eA s) (nB s) (de s)).getD (d9 (eA s) x).toNat 0
def iK (s:aD):List Int:=(vC s.1 (eA s) (de s)).1
def BX (s:aD):Int:=qP (fe false [] (aa (iK s)).1)
structure Right (s:aD):Prop where
 w:∀ x∈s.1,am .u64 x
 chk:(ah s.1).2.2=0
 root:ao s.2.1 s.1.length=0
 pin:be s.2.2.1=0
 hand:aM s.2.2.2=0
 nam:∀ x∈cn s,isB (aa s.1).1 x=true
theorem vK {s:aD} (hw:∀ x∈s.1,am .u64 x) (h:aH s=0):Right s:=by
 unfold aH at h
 split at h
 ·omega
 rename_i h0
 split at h
 ·omega
 rename_i h1
 split at h
 ·omega
 rename_i h2
 split at h
 ·omega
 rename_i h3
 exact ⟨hw,by omega,by omega,by omega,by omega,(fv h).2⟩
section
variable {s:aD}
theorem Right.pinsRise (h:Right s):(de s).Pairwise (·<·):=List.pairwise_map.2 (yx h.pin).2.1
theorem Right.pinsIn (h:Right s):∀ x∈de s,x∈cn s:=fun x hx=>List.mem_append_right _ hx
theorem Right.froms (h:Right s):∀ x∈cf s++de s,x∈cn s:=fun x hx=>by
 rcases List.mem_append.1 hx with hx | hx
 ·exact (mL h.root).1 hx
 ·exact h.pinsIn x hx
theorem Right.fault (h:Right s):bc s.1 (cf s++de s)=0:=um h.chk fun x hx=>h.nam x (h.froms x hx)
theorem Right.keep (h:Right s):dd (de s)=true:=fk h.pinsRise
theorem Right.longs (h:Right s):dg s.1 (eA s) (de s)=(nB s,0):=nL h.w h.fault h.keep
theorem Right.plan (h:Right s):Plan s.1 (eA s) (de s) (nB s):=by
 have:=BB (a:=s.1) (keep:=eA s) (pinned:=de s) (by rw [h.longs])
 rw [h.longs] at this
 exact this
theorem Right.good (h:Right s) (to:List Int):((eA s).all fun x=>ws (eA s) to (gn s.1 x))=true:=qg h.w h.fault to
theorem Right.clean (h:Right s):Bh s.1 (cf s) (de s)=(iK s,(cf s).map (CJ s),0):=by
 unfold Bh
 rw [if_neg (by rw [h.fault]; simp),if_neg (by rw [h.keep]; simp),(wS h.w h.fault h.keep).1]
 rfl
theorem Right.slid (h:Right s):iK s=kN s.1 (eA s) (di (eA s) (nB s) (de s)) (de s) (nB s) (dy s.1.length (eA s) (nB s) (de s)):=by
 have hg:=h.good (di (eA s) ((eA s).map (d5 (aa s.1).1)) (de s))
 unfold iK vC
 rw [if_pos hg]
 rfl
theorem Right.slidOK (h:Right s):(ah (iK s)).2.2=0∧(iK s).length=s.1.length∧(aa (iK s)).1=iJ s.1 (eA s) (de s) (nB s):=by
 rw [h.slid,xr h.plan (h.good _)]
 exact ⟨rfl,kM _ h.plan,by rw [oY _ h.plan]⟩
theorem Right.al (h:Right s):s.1.length≤256:=(dE h.chk).1
theorem Right.free (h:Right s):BX s+((eA s).map (d5 (aa s.1).1)).sum=s.1.length:=by
 obtain ⟨h1,h2,h3⟩:=h.slidOK
 have h4:=AW (dE h1).2.2.2.1
 unfold BX
 rw [← h2,← zd (pinned:=de s) (long:=nB s) h.plan.isb,← h3]
 exact h4
end
section
variable {s:aD}
end
theorem Right.small {s:aD} (h:Right s):s.2.1.length≤32∧s.2.2.1.length≤16∧s.2.2.2.length≤16:=gg h.root h.pin h.hand
structure ObjAt (s:aD) (x:Int):Prop where
 isb:isB (aa s.1).1 x=true
 at_:sS s.1 x=(eQ s.1 (x,iB s.1 x) (ah s.1).2.1,0)
 refs:((sS s.1 x).1.2.1.length:Int)=(iB s.1 x).1
 body:((sS s.1 x).1.2.2.1.length:Int)=(iB s.1 x).2.1
 x0:0≤x
 r0:0≤(iB s.1 x).1
 b0:0≤(iB s.1 x).2.1
 fit:x+1+(iB s.1 x).1+(iB s.1 x).2.1≤s.1.length
end Go.Proofs.Ytcnoiiohmpgckaa
