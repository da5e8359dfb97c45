
import Derived.Test.YtglchojglcobjaaGreatJoinPure
import Derived.Test.YtglchojglcobjaaGreatStores
namespace Go.Proofs.YtglchojglcobjaaGreat
open Go
def nilStore:StoreD:=([],[],[],[])
def pinsOf (s:StoreD):List Int:=s.2.2.1.map (·.1)
def keepS (s:StoreD):List Int:=reachL s.1 (fromS s++pinsOf s)
def longS (s:StoreD):List Int:=(keepS s).map (lgOf (spotsF s.1).1)
def toT (s:StoreD) (x:Int):Int:=(planS (keepS s) (longS s) (pinsOf s)).getD (place (keepS s) x).toNat 0
def slidA (s:StoreD):List Int:=(slidR s.1 (keepS s) (pinsOf s)).1
def rootTo (s:StoreD) (v:Int):Int:=if 0≤v then toT s v else v
def handTo (s:StoreD) (h:Slot):Slot:=if h.2.1=true then (h.1,h.2.1,toT s h.2.2) else h
def sweptS (s:StoreD):StoreD:=(slidA s,s.2.1.map (rootTo s),s.2.2.1,s.2.2.2.map (handTo s))
def freeS (s:StoreD):Int:=sumG (gapsL false [] (spotsF (slidA s)).1)
def collectT (s:StoreD):StoreD×Int:=(sweptS s,freeS s)
structure Right (s:StoreD):Prop where
 w:∀ x∈s.1,InR .u64 x
 chk:(checkF s.1).2.2=0
 root:rootFault s.2.1 s.1.length=0
 pin:pinsF s.2.2.1=0
 hand:handsF s.2.2.2=0
 nam:∀ x∈namesS s,isB (spotsF s.1).1 x=true
theorem right_of {s:StoreD} (hw:∀ x∈s.1,InR .u64 x) (h:storeF s=0):Right s:=by
 unfold storeF at h
 split at h
 ·omega
 rename_i h0
 split at h
 ·omega
 rename_i h1
 split at h
 ·omega
 rename_i h2
 split at h
 ·omega
 rename_i h3
 exact ⟨hw,by omega,by omega,by omega,by omega,(fromFault_ok h).2⟩
section
variable {s:StoreD}
theorem Right.pinsRise (h:Right s):(pinsOf s).Pairwise (·<·):=List.pairwise_map.2 (pins_ok h.pin).2.1
theorem Right.pinsIn (h:Right s):∀ x∈pinsOf s,x∈namesS s:=fun x hx=>List.mem_append_right _ hx
theorem Right.froms (h:Right s):∀ x∈fromS s++pinsOf s,x∈namesS s:=fun x hx=>by
 rcases List.mem_append.1 hx with hx | hx
 ·exact (fromS_mem h.root).1 hx
 ·exact h.pinsIn x hx
theorem Right.fault (h:Right s):fromFault s.1 (fromS s++pinsOf s)=0:=fromFault_of h.chk fun x hx=>h.nam x (h.froms x hx)
theorem Right.keep (h:Right s):risesL (pinsOf s)=true:=pairwise_risesL h.pinsRise
theorem Right.longs (h:Right s):longsF s.1 (keepS s) (pinsOf s)=(longS s,0):=clean_longs h.w h.fault h.keep
theorem Right.plan (h:Right s):Plan s.1 (keepS s) (pinsOf s) (longS s):=by
 have:=plan_of (a:=s.1) (keep:=keepS s) (pinned:=pinsOf s) (by rw [h.longs])
 rw [h.longs] at this
 exact this
theorem Right.good (h:Right s) (to:List Int):((keepS s).all fun x=>goodR (keepS s) to (refsA s.1 x))=true:=clean_good h.w h.fault to
theorem Right.clean (h:Right s):cleanF s.1 (fromS s) (pinsOf s)=(slidA s,(fromS s).map (toT s),0):=by
 unfold cleanF
 rw [if_neg (by rw [h.fault]; simp),if_neg (by rw [h.keep]; simp),(clean_slide h.w h.fault h.keep).1]
 rfl
theorem Right.slid (h:Right s):slidA s=slidW s.1 (keepS s) (planS (keepS s) (longS s) (pinsOf s)) (pinsOf s) (longS s) (planGapsL s.1.length (keepS s) (longS s) (pinsOf s)):=by
 have hg:=h.good (planS (keepS s) ((keepS s).map (lgOf (spotsF s.1).1)) (pinsOf s))
 unfold slidA slidR
 rw [if_pos hg]
 rfl
theorem Right.slidOK (h:Right s):(checkF (slidA s)).2.2=0∧(slidA s).length=s.1.length∧(spotsF (slidA s)).1=slidS s.1 (keepS s) (pinsOf s) (longS s):=by
 rw [h.slid,slid_check h.plan (h.good _)]
 exact ⟨rfl,slidW_length _ h.plan,by rw [slid_spots _ h.plan]⟩
theorem Right.keepIn (h:Right s) {x:Int} (hx:x∈namesS s):x∈keepS s:=by
 obtain ⟨k1,k2⟩:=fromFault_ok h.fault
 exact (reach_mem h.w k1 k2).2 (.base (List.mem_append_left _ ((fromS_mem h.root).2 hx)))
theorem Right.al (h:Right s):s.1.length≤256:=(checkF_in h.chk).1
theorem Right.reached (h:Right s):reachL s.1 (risingL (namesS s) 256)=keepS s:=by
 have hr:=names_range h.root h.pin h.hand
 have hm:∀ x,x∈risingL (namesS s) 256 ↔ x∈namesS s:=fun x=>by
  rw [rising_mem]
  exact ⟨fun h=>h.2.2,fun hx=>⟨(hr x hx).1,by have:=(hr x hx).2; omega,hx⟩⟩
 obtain ⟨k1,k2⟩:=fromFault_ok h.fault
 refine rise_uniq (reach_rise _ _) (reach_rise _ _) fun x=>?_
 rw [reach_mem h.w h.chk (fun y hy=>h.nam y ((hm y).1 hy)),keepS,reach_mem h.w k1 k2]
 exact ⟨fun hx=>hx.mono fun y hy=>.base (List.mem_append_left _ ((fromS_mem h.root).2 ((hm y).1 hy))),fun hx=>hx.mono fun y hy=>.base ((hm y).2 (h.froms y hy))⟩
theorem Right.fromOK (h:Right s):fromFault s.1 (risingL (namesS s) 256)=0:=fromFault_of h.chk fun x hx=>h.nam x (rising_mem.1 hx).2.2
theorem Right.free (h:Right s):freeS s+((keepS s).map (lgOf (spotsF s.1).1)).sum=s.1.length:=by
 obtain ⟨h1,h2,h3⟩:=h.slidOK
 have h4:=free_sum (checkF_in h1).2.2.2.1
 unfold freeS
 rw [← h2,← slidS_sum (pinned:=pinsOf s) (long:=longS s) h.plan.isb,← h3]
 exact h4
end
section
variable {s:StoreD}
end
theorem Right.small {s:StoreD} (h:Right s):s.2.1.length≤32∧s.2.2.1.length≤16∧s.2.2.2.length≤16:=store_small h.root h.pin h.hand
theorem Right.gaps {s:StoreD} (h:Right s):gapsGF (slidA s)=(gapsL false [] (spotsF (slidA s)).1,0)∧(∀ r∈gapsL false [] (spotsF (slidA s)).1,0≤r.1∧1≤r.2∧r.2≤256)∧(gapsL false [] (spotsF (slidA s)).1).length≤256:=by
 obtain ⟨hz,hl,_⟩:=h.slidOK
 obtain ⟨g1,g2⟩:=gaps_in (checkF_in hz).2.2.2.1
 have hal:=h.al
 refine ⟨by unfold gapsGF; rw [if_neg (by omega)],fun r hr=>?_,g2⟩
 have:=g1 r hr
 omega
theorem sumG_take {l:List Gap} {i:Int} (h0:0≤i) (h1:i<l.length):sumG (l.take (i+1).toNat)=sumG (l.take i.toNat)+(l.getD i.toNat (0,0)).2:=by
 rw [take_snoc ((0,0):Gap) h0 h1,sumG_snoc]
structure ObjAt (s:StoreD) (x:Int):Prop where
 isb:isB (spotsF s.1).1 x=true
 at_:atF s.1 x=(objectF s.1 (x,hdA s.1 x) (checkF s.1).2.1,0)
 refs:((atF s.1 x).1.2.1.length:Int)=(hdA s.1 x).1
 body:((atF s.1 x).1.2.2.1.length:Int)=(hdA s.1 x).2.1
 x0:0≤x
 r0:0≤(hdA s.1 x).1
 b0:0≤(hdA s.1 x).2.1
 fit:x+1+(hdA s.1 x).1+(hdA s.1 x).2.1≤s.1.length
theorem Right.obj {s:StoreD} (h:Right s) {x:Int} (hx:x∈namesS s):ObjAt s x:=by
 have hb:=h.nam x hx
 obtain ⟨_,_,e⟩:=at_obj h.chk hb
 obtain ⟨l1,l2,l3,l4,l5,l6⟩:=objA_length hb
 obtain ⟨k1,k2⟩:=at_lens h.chk hb
 exact ⟨hb,e,by omega,by omega,l3,l5,l6,l4⟩
theorem Right.rootIn {s:StoreD} (h:Right s) {k:Int} (h0:0≤k) (h1:k<s.2.1.length):-1≤s.2.1.getD k.toNat 0∧s.2.1.getD k.toNat 0<s.1.length:=withinI (rootFault_any h.root) (getD_mem (0:Int) h0 h1)
theorem Right.rootNam {s:StoreD} (h:Right s) {k:Int} (h0:0≤k) (h1:k<s.2.1.length) (h2:0≤s.2.1.getD k.toNat 0):s.2.1.getD k.toNat 0∈namesS s :=
 List.mem_append_left _ (List.mem_append_left _ (List.mem_filter.2 ⟨getD_mem (0:Int) h0 h1,by simpa using h2⟩))
theorem Right.handNam {s:StoreD} (h:Right s) {k:Int} (h0:0≤k) (h1:k<s.2.2.2.length) (h2:(s.2.2.2.getD k.toNat (0,false,0)).2.1=true):(s.2.2.2.getD k.toNat (0,false,0)).2.2∈namesS s :=
 List.mem_append_left _ (List.mem_append_right _ (List.mem_map.2 ⟨_,List.mem_filter.2 ⟨getD_mem ((0,false,0):Slot) h0 h1,by simpa using h2⟩,rfl⟩))
theorem Right.refWord {s:StoreD} (h:Right s) {x k:Int} (hx:isB (spotsF s.1).1 x=true) (h0:0≤k) (h1:k<(hdA s.1 x).1):0≤s.1.getD (x+1+k).toNat 0∧s.1.getD (x+1+k).toNat 0≤256:=by
 obtain ⟨l1,l2,l3,l4,l5,l6⟩:=objA_length hx
 have hm:s.1.getD (x+1+k).toNat 0∈refsA s.1 x:=by
  unfold refsA spotRefs
  have hlt:(x+1+k).toNat<s.1.length:=by omega
  rw [List.mem_iff_getElem?]
  refine ⟨k.toNat,?_⟩
  rw [List.getElem?_drop,List.getElem?_take,if_pos (by simp only; omega),show (x+1).toNat+k.toNat=(x+1+k).toNat by omega]
  simp [List.getD_eq_getElem?_getD,hlt]
 have hw:=h.w _ (getD_mem (0:Int) (xs:=s.1) (i:=x+1+k) (by omega) (by omega))
 have hw0:0≤s.1.getD (x+1+k).toNat 0:=hw.1
 by_cases hz:s.1.getD (x+1+k).toNat 0=0
 ·omega
 ·have ho:s.1.getD (x+1+k).toNat 0 - 1∈outsA s.1 x:=List.mem_map.2 ⟨_,List.mem_filter.2 ⟨hm,by simpa using hz⟩,rfl⟩
  have:=isB_range (outsA_isB h.w h.chk hx ho)
  omega
end Go.Proofs.YtglchojglcobjaaGreat
