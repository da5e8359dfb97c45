
import Derived.Test.YtcnoiiohmpgckaaReadSame
namespace Go.Proofs.Ytcnoiiohmpgckaa
open Go
theorem uW {x:Int} (h0:0≤x) (h1:x<18446744073709551616):IntKind.i64.wrap x=if x<9223372036854775808 then x else x - 18446744073709551616:=by
 by_cases h:x<9223372036854775808
 ·rw [if_pos h]
  exact eT (by omega) (by omega)
 ·rw [if_neg h]
  simp only [IntKind.wrap,IntKind.bits,IntKind.signed]
  simp
  omega
theorem jl {x k:Int} (h0:0≤x) (h1:x<18446744073709551616) (_:k≤1000000) (g:0≤IntKind.i64.wrap x∧IntKind.i64.wrap x≤k):x≤k:=by
 rw [uW h0 h1] at g
 split at g <;> omega
theorem zl {x:Int} (h0:0≤x) (h1:x<18446744073709551616) (g:-1≤gJ x∧gJ x<256):x≤256:=by
 unfold gJ at g
 rw [uW h0 h1] at g
 split at g
 ·rw [eT (by omega) (by omega)] at g
  omega
 ·by_cases e:x=9223372036854775808
  ·exfalso
   rw [e] at g
   revert g
   decide
  ·rw [eT (by omega) (by omega)] at g
   omega
theorem zk {x:Int} (h0:0≤x) (h1:x≤256):gJ x=iQ x:=by
 unfold gJ iQ
 rw [eT (n:=x) (by omega) (by omega),eT (by omega) (by omega)]
theorem si {w r p h:Nat} {l:List Int} (hin:∀ x∈l,0≤x) (hr:dI (l.drop w) r=true):BA w r p h l=fJ w r p h l:=by
 unfold BA fJ
 have:((l.drop w).take r).map gJ=((l.drop w).take r).map iQ:=List.map_congr_left fun x hx=>zk (hin x (List.mem_of_mem_drop (List.mem_of_mem_take hx))) (of_decide_eq_true (List.all_eq_true.1 hr x hx))
 rw [this]
structure Told (b:List UInt8) (a c d e:Int) (L:List Int):Prop where
 nums:c6 b=some (a::c::d::e::L)
 inn:∀ x∈a::c::d::e::L,0≤x∧x<18446744073709551616
 sum:L.length=a.toNat+c.toNat+2 * d.toNat+3 * e.toNat
 ops:xF (((L.drop a.toNat).drop c.toNat).drop (2 * d.toNat)) e.toNat
theorem sh {b:List UInt8} {a c d e:Int} {L:List Int} (T:Told b a c d e L):eC b=(BA a.toNat c.toNat d.toNat e.toNat L,([],false)):=by
 have g0:eO (a::c::d::e::L) (b,false):=⟨rfl,T.nums⟩
 have hs:=T.sum
 have p0:=T.inn a (by simp)
 have p1:=T.inn c (by simp)
 have p2:=T.inn d (by simp)
 have p3:=T.inn e (by simp)
 have mg:∀ {v:Int} {l:List Int} {r:Rd},eO (v::l) r→v≤(l.length:Int)→(ae r).1=v∧eO l (ae r).2:=fun h hv=>by
  have:=(wq (fa h).2).1
  exact qd h (by omega)
 obtain ⟨v0,g1⟩:=mg g0 (by simp only [List.length_cons]; omega)
 obtain ⟨v1,g2⟩:=mg g1 (by simp only [List.length_cons]; omega)
 obtain ⟨v2,g3⟩:=mg g2 (by simp only [List.length_cons]; omega)
 obtain ⟨v3,g4⟩:=mg g3 (by omega)
 obtain ⟨w0,g5⟩:=eH g4 a.toNat (by omega)
 obtain ⟨w1,g6⟩:=eH g5 c.toNat (by rw [List.length_drop]; omega)
 obtain ⟨w2,g7⟩:=js g6 d.toNat (by rw [List.length_drop,List.length_drop]; omega)
 obtain ⟨w3,g8⟩:=hZ g7 e.toNat (by rw [List.length_drop,List.length_drop,List.length_drop]; omega) T.ops
 rw [List.drop_of_length_le (by rw [List.length_drop,List.length_drop,List.length_drop]; omega)] at g8
 have hn:=AQ g8
 unfold eC d7
 simp only [v0,v1,v2,v3]
 rw [w0,w1,w2,w3,hn]
 rfl
theorem xB {b:List UInt8} (h1:(eC b).2.2=false) (h2:(eC b).2.1=[]):∃ a c d e L,Told b a c d e L:=by
 have hd:¬ eu (eC b).2:=by
  rintro (h | h)
  ·rw [h1] at h; cases h
  ·rw [h2,fD] at h; cases h
 have cd:∀ {r:Rd},eu r→eu (ae r).2:=fun h=>qe (ca h)
 have ce:∀ {r:Rd},eO [] r→eu (ae r).2:=fun h=>qe (lz h)
 have e4:(eC b).2=(aT (d7 b).1.2.2.2.toNat (bG (d7 b).1.2.2.1.toNat (br (d7 b).1.2.1.toNat (br (d7 b).1.1.toNat (d7 b).2).2).2).2).2:=rfl
 rw [e4] at hd h2
 have d3:=fun h=>hd (oW h _)
 have d2:=fun h=>d3 (sB h _)
 have d1:=fun h=>d2 (ke h _)
 have d0:¬ eu (d7 b).2:=fun h=>d1 (ke h _)
 have c3:¬ eu (ae (ae (ae (b,false)).2).2).2:=fun h=>d0 (cd h)
 have c2:¬ eu (ae (ae (b,false)).2).2:=fun h=>c3 (cd h)
 have c1:¬ eu (ae (b,false)).2:=fun h=>c2 (cd h)
 cases hn:c6 b with
 | none=>exact absurd (cd (.inr hn)) c1
 | some n =>
  have g0:eO n (b,false):=⟨rfl,hn⟩
  have hin:=(wq g0).2
  match n,hn,g0,hin with
  | [],_,g0,_=>exact absurd (ce g0) c1
  | a::n1,hn,g0,hin =>
   obtain ⟨v0,g1⟩:=gt g0 c1
   match n1,hn,g1,hin with
   | [],_,g1,_=>exact absurd (ce g1) c2
   | c::n2,hn,g1,hin =>
    obtain ⟨v1,g2⟩:=gt g1 c2
    match n2,hn,g2,hin with
    | [],_,g2,_=>exact absurd (ce g2) c3
    | d::n3,hn,g2,hin =>
     obtain ⟨v2,g3⟩:=gt g2 c3
     match n3,hn,g3,hin with
     | [],_,g3,_=>exact absurd (ce g3) d0
     | e::L,hn,g3,hin =>
      obtain ⟨v3,g4⟩:=gt g3 d0
      have q:d7 b=((a,c,d,e),(d7 b).2):=by
       unfold d7
       rw [v0,v1,v2,v3]
      rw [q] at hd h2 d3 d2 d1
      simp only at hd h2 d3 d2 d1
      have g4:eO L (d7 b).2:=g4
      generalize (d7 b).2=r4 at *
      have k0:a.toNat≤L.length:=by
       apply Classical.byContradiction
       intro h
       exact d1 (iS g4 _ (by omega))
      obtain ⟨_,g5⟩:=eH g4 a.toNat k0
      have k1:c.toNat≤(L.drop a.toNat).length:=by
       apply Classical.byContradiction
       intro h
       exact d2 (iS g5 _ (by omega))
      obtain ⟨_,g6⟩:=eH g5 c.toNat k1
      have k2:2 * d.toNat≤((L.drop a.toNat).drop c.toNat).length:=by
       apply Classical.byContradiction
       intro h
       exact d3 (pq g6 _ (by omega))
      obtain ⟨_,g7⟩:=js g6 d.toNat k2
      obtain ⟨k3,k4⟩:=nb g7 e.toNat hd
      obtain ⟨_,g8⟩:=hZ g7 e.toNat k3 k4
      have h8:=g8.2
      rw [h2,fD] at h8
      have h8:=congrArg List.length (Option.some.inj h8)
      simp only [List.length_drop,List.length_nil] at h8 k1 k2 k3
      exact ⟨a,c,d,e,L,hn,hin,by omega,k4⟩
theorem xC (b:List UInt8):bA b=if (aF b).2=true then ((aF b).1,0) else (([],[],[],[]),3):=by
 have key:∀ {a c d e:Int} {L:List Int},Told b a c d e L→aF b=pC (a::c::d::e::L):=fun T=>by
  unfold aF ab
  rw [T.nums]
  rfl
 by_cases hr:(aF b).2=true
 ·rw [if_pos hr]
  have hn:∃ n,c6 b=some n∧aF b=pC n:=by
   unfold aF ab at hr ⊢
   cases hn:c6 b with
   | none=>rw [hn] at hr; simp at hr
   | some n=>exact ⟨n,rfl,rfl⟩
  obtain ⟨n,hn,e⟩:=hn
  rw [e] at hr ⊢
  have hin:=(jw b.length b n (Nat.le_refl _) hn).2
  unfold pC at hr ⊢
  split at hr
  ·cases hr
  rename_i h1
  rw [if_neg h1]
  split at hr
  ·cases hr
  rename_i h2
  rw [if_neg h2]
  split at hr
  ·cases hr
  rename_i h3
  rw [if_neg h3]
  simp only at hr ⊢
  have hl:iZ n=true:=by simpa using h1
  unfold iZ at hl
  simp only [Bool.and_eq_true,decide_eq_true_eq] at hl
  obtain ⟨⟨⟨⟨l4,b0⟩,b1⟩,b2⟩,b3⟩:=hl
  match n,hn,hin,l4,b0,b1,b2,b3,h2,h3,hr with
  | a::c::d::e::L,hn,hin,_,b0,b1,b2,b3,h2,h3,hr =>
   have h2:((L.length:Nat):Int)=a+c+2 * d+3 * e:=Classical.not_not.1 h2
   have p0:=hin a (by simp)
   have p1:=hin c (by simp)
   have p2:=hin d (by simp)
   have p3:=hin e (by simp)
   have h3:i6 a.toNat c.toNat d.toNat e.toNat L=true:=by
    cases h:i6 a.toNat c.toNat d.toNat e.toNat L
    ·exact absurd h h3
    ·rfl
   unfold i6 at h3
   simp only [Bool.and_eq_true] at h3
   have T:Told b a c d e L:=⟨hn,hin,by omega,fun j hj=>(fR.1 h3.2 j hj).2.1⟩
   have hR:=si (w:=a.toNat) (r:=c.toNat) (p:=d.toNat) (h:=e.toNat) (l:=L) (fun x hx=>(hin x (by simp [hx])).1) h3.1.1
   have hA:=sh T
   rw [hR] at hA
   have hr:aH (fJ a.toNat c.toNat d.toNat e.toNat L)=0:=of_decide_eq_true hr
   unfold bA
   rw [hA]
   simp only
   rw [if_neg]
   ·rfl
   ·rw [hr]
    simp
 ·rw [if_neg hr]
  unfold bA
  by_cases hc:((eC b).2.2||decide ((eC b).2.1≠[])||decide (aH (eC b).1≠0))=true
  ·rw [if_pos hc]
  ·exfalso
   apply hr
   simp only [Bool.or_eq_true,decide_eq_true_eq,not_or,Bool.not_eq_true,Classical.not_not] at hc
   obtain ⟨⟨h1,h2⟩,h3⟩:=hc
   obtain ⟨a,c,d,e,L,T⟩:=xB h1 h2
   rw [sh T] at h3
   have hin:=T.inn
   have hs:=T.sum
   have p0:=hin a (by simp)
   have p1:=hin c (by simp)
   have p2:=hin d (by simp)
   have p3:=hin e (by simp)
   have hL:∀ x∈L,0≤x∧x<18446744073709551616:=fun x hx=>hin x (by simp [hx])
   have hw:∀ x∈L.take a.toNat,am .u64 x:=fun x hx=>by
    have:=hL x (List.mem_of_mem_take hx)
    simp only [am]
    omega
   have R:=vK (s:=BA a.toNat c.toNat d.toNat e.toNat L) hw h3
   obtain ⟨la,lr,lp,lh,hroot⟩:=j8 (a:=L.take a.toNat) (r:=((L.drop a.toNat).take c.toNat).map gJ) (p:=fM ((L.drop a.toNat).drop c.toNat) d.toNat) (h:=dZ (((L.drop a.toNat).drop c.toNat).drop (2 * d.toNat)) e.toNat) hw h3
   rw [List.length_take] at la
   rw [List.length_map,List.length_take,List.length_drop] at lr
   rw [lw] at lp
   rw [jD] at lh
   have hpin:=(yx R.pin).2.2
   have hhand:=(wn R.hand).2
   have g1:dI (L.drop a.toNat) c.toNat=true:=List.all_eq_true.2 fun x hx=>by
    have hx2:=hL x (List.mem_of_mem_drop (List.mem_of_mem_take hx))
    exact decide_eq_true (zl hx2.1 hx2.2 (hroot _ (List.mem_map_of_mem hx)))
   have getin:∀ (l:List Int),(∀ x∈l,0≤x∧x<18446744073709551616)→∀ j,j<l.length→0≤l.getD j 0∧l.getD j 0<18446744073709551616:=fun l hl j hj=>hl _ (by simp [List.getD_eq_getElem?_getD,hj])
   have L2in:∀ x∈(L.drop a.toNat).drop c.toNat,0≤x∧x<18446744073709551616:=fun x hx=>hL x (List.mem_of_mem_drop (List.mem_of_mem_drop hx))
   have L3in:∀ x∈((L.drop a.toNat).drop c.toNat).drop (2 * d.toNat),0≤x∧x<18446744073709551616:=fun x hx=>L2in x (List.mem_of_mem_drop hx)
   have n2:((L.drop a.toNat).drop c.toNat).length=2 * d.toNat+3 * e.toNat:=by rw [List.length_drop,List.length_drop]; omega
   have n3:(((L.drop a.toNat).drop c.toNat).drop (2 * d.toNat)).length=3 * e.toNat:=by rw [List.length_drop]; omega
   have g2:gL ((L.drop a.toNat).drop c.toNat) d.toNat=true:=jt.2 fun j hj=>by
    have:=hpin _ (List.mem_map.2 ⟨j,List.mem_range.2 hj,rfl⟩)
    simp only at this
    obtain ⟨u1,u2⟩:=getin _ L2in (2 * j) (by omega)
    obtain ⟨u3,u4⟩:=getin _ L2in (2 * j+1) (by omega)
    exact ⟨jl u1 u2 (by omega) ⟨this.1,this.2.1⟩,jl u3 u4 (by omega) ⟨by omega,this.2.2.2⟩⟩
   have g3:eK (((L.drop a.toNat).drop c.toNat).drop (2 * d.toNat)) e.toNat=true:=fR.2 fun j hj=>by
    have:=hhand _ (List.mem_map.2 ⟨j,List.mem_range.2 hj,rfl⟩)
    simp only at this
    obtain ⟨u1,u2⟩:=getin _ L3in (3 * j) (by omega)
    obtain ⟨u3,u4⟩:=getin _ L3in (3 * j+2) (by omega)
    exact ⟨jl u1 u2 (by omega) ⟨this.1,this.2.1⟩,T.ops j hj,jl u3 u4 (by omega) ⟨this.2.2.1,this.2.2.2⟩⟩
   have hR:=si (w:=a.toNat) (r:=c.toNat) (p:=d.toNat) (h:=e.toNat) (l:=L) (fun x hx=>(hL x hx).1) g1
   rw [hR] at h3
   rw [key T]
   unfold pC
   rw [if_neg,if_neg,if_neg]
   ·exact decide_eq_true h3
   ·show ¬ i6 a.toNat c.toNat d.toNat e.toNat L=false
    unfold i6
    rw [g1,g2,g3]
    simp
   ·show ¬ ((L.length:Nat):Int)≠a+c+2 * d+3 * e
    omega
   ·show ¬ iZ (a::c::d::e::L)=false
    have:iZ (a::c::d::e::L)=(decide (4≤(a::c::d::e::L).length)&&decide (a≤256)&&decide (c≤32)&&decide (d≤16)&&decide (e≤16)):=rfl
    rw [this,decide_eq_true (by simp),decide_eq_true (by omega),decide_eq_true (by omega),decide_eq_true (by omega),decide_eq_true (by omega)]
    simp
end Go.Proofs.Ytcnoiiohmpgckaa
