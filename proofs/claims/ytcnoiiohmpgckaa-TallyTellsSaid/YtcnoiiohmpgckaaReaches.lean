
import Derived.Test.YtcnoiiohmpgckaaReach
namespace Go.Proofs.Ytcnoiiohmpgckaa
open Go
set_option maxRecDepth 100000
set_option maxHeartbeats 1000000
theorem wq {l:List Int} {x:Int} (h:(!bp l x)=true):¬ x∈l:=fun hx=>by rw [bi.2 hx] at h; cases h
theorem wo {l:List Int} {x:Int} (h:(!bp l x)=false):x∈l:=bi.1 (by cases hx:bp l x <;> simp_all)
theorem ry {a:List Int} (hw:∀ x∈a,aj .u64 x) (hc:(ao a).2.2=0) {x:Int} (hx:isB (aa a).1 x=true) {y:Int}:(y∈ah a x (ac x (aa a).1).1∧0≤y) ↔ y∈ay a x:=by
 have e:ah a x (ac x (aa a).1).1=(ch a x).map nameOf:=rfl
 rw [e]
 unfold ay
 have hr:=dr hw hc _ (er hx).1
 simp only [List.mem_map,List.mem_filter,decide_eq_true_eq]
 constructor
 ·rintro ⟨⟨v,hv,rfl⟩,h0⟩
  rcases hr v hv with rfl | ⟨h1,h2,_⟩
  ·simp [nameOf] at h0
  ·exact ⟨v,⟨hv,by omega⟩,by unfold nameOf; rw [if_neg (by omega)]⟩
 ·rintro ⟨v,⟨hv,h0⟩,rfl⟩
  rcases hr v hv with e | ⟨h1,h2,_⟩
  ·exact absurd e h0
  ·exact ⟨⟨v,hv,by unfold nameOf; rw [if_neg (by omega)]⟩,by omega⟩
structure InReach (a f l:List Int):Prop where
 has:∀ x∈f,x∈l
 only:∀ x∈l,Rch a f x
 len:l.length+cj f≤f.length+cj l
def qS:Nat→Option LoopGen
 | 4=>some { rd:=[.dat 0 (.arr ci),.dat 1 (.arr ty_I)],A:=fun ((a,f):List Int×List Int)=>{ cs:=[.own 6 3 ty_I,.dat 7 .bool],inv:=fun ((l,ag):List Int×Bool)=>InReach a f l∧(ag=false→eB a l=true),mu:=fun ((l,ag):List Int×Bool)=>2 * (256 - cj l)+(if ag=true then 1 else 0) } }
 | 7=>some { rd:=[.own 5 3 ty_I,.dat 0 (.arr ci),.dat 1 (.arr ty_I),.own 6 3 ty_I],A:=fun ((all,a,f,l0):List Int×List Int×List Int×List Int)=>{ cs:=[.own 6 3 ty_I,.dat 7 .bool,.dat 19 ty_I],inv:=fun ((l,ag,i):List Int×Bool×Int)=>0≤i∧i≤all.length∧InReach a f l∧(ag=false→l=l0∧∀ x∈all.take i.toNat,x∈l0→∀ y∈ay a x,y∈l0)∧(ag=true→cj l0<cj l),mu:=fun ((_,_,i):List Int×Bool×Int)=>(all.length - i).toNat } }
 | 11=>some { rd:=[.own 29 3 ty_I,.own 6 3 ty_I,.dat 7 .bool],A:=fun ((ns,l1,ag1):List Int×List Int×Bool)=>{ cs:=[.own 6 3 ty_I,.dat 7 .bool,.dat 31 ty_I],inv:=fun ((l,ag,j):List Int×Bool×Int)=>0≤j∧j≤ns.length∧(∀ x∈l1,x∈l)∧(∀ x∈l,x∈l1∨(x∈ns∧0≤x))∧l.length+cj l1≤l1.length+cj l∧(ag=false→ag1=false∧l=l1∧∀ y∈ns.take j.toNat,0≤y→y∈l1)∧(ag=true→ag1=true∨cj l1<cj l)∧(ag1=true→ag=true),mu:=fun ((_,_,j):List Int×Bool×Int)=>(ns.length - j).toNat } }
 | _=>none
def pT:Spec:={ Ts:=[.arr ci,.arr ty_I],Rs:=[.own 3 ty_I],pre:=fun ((a,f):List Int×List Int)=>an a f=0∧(f.length+256) * 8≤140737488355328,F:=fun ((a,f):List Int×List Int)=>cp a f }
def kc:Prop :=
  ∀ (x:List Int×List Int),((x.1.length * 8≤aL∧∀ (x_1:Int),x_1∈x.1→aj .u64 x_1)∧x.2.length * 8≤aL∧∀ (x_1:Int),x_1∈x.2→aj .i64 x_1)→an x.1 x.2=0∧(x.2.length+256) * 8≤140737488355328→True∧x.2.length * 8≤aL∧(InReach x.1 x.2 x.2∧(true=false→eB x.1 x.2=true))∧∀ (x_1:List Int×Bool),InReach x.1 x.2 x_1.1∧(x_1.2=false→eB x.1 x_1.1=true)→(x_1.2=true→((0:Int)≤0∧0≤(↑(ab (aa x.1).1).length:Int)∧InReach x.1 x.2 x_1.1∧(false=false→x_1.1=x_1.1∧∀ (x_2:Int),x_2∈List.take (Int.toNat 0) (ab (aa x.1).1)→x_2∈x_1.1→∀ (y:Int),y∈ay x.1 x_2→y∈x_1.1)∧(false=true→cj x_1.1<cj x_1.1))∧∀ (x_2:List Int×Bool×Int),0≤x_2.2.2∧x_2.2.2≤(↑(ab (aa x.1).1).length:Int)∧InReach x.1 x.2 x_2.1∧(x_2.2.1=false→x_2.1=x_1.1∧∀ (x_3:Int),x_3∈List.take x_2.2.2.toNat (ab (aa x.1).1)→x_3∈x_1.1→∀ (y:Int),y∈ay x.1 x_3→y∈x_1.1)∧(x_2.2.1=true→cj x_1.1<cj x_2.1)→(decide (x_2.2.2<(↑(ab (aa x.1).1).length:Int))=true→0≤x_2.2.2∧x_2.2.2<(↑(ab (aa x.1).1).length:Int)∧x_2.2.2.toNat<(ab (aa x.1).1).length∧True∧((!bp x_2.1 ((ab (aa x.1).1).getD x_2.2.2.toNat 0))=true→aj .i64 (x_2.2.2+1)∧(0≤x_2.2.2+1∧x_2.2.2+1≤(↑(ab (aa x.1).1).length:Int)∧InReach x.1 x.2 x_2.1∧(x_2.2.1=false→x_2.1=x_1.1∧∀ (x_3:Int),x_3∈List.take (x_2.2.2+1).toNat (ab (aa x.1).1)→x_3∈x_1.1→∀ (y:Int),y∈ay x.1 x_3→y∈x_1.1)∧(x_2.2.1=true→cj x_1.1<cj x_2.1))∧((↑(ab (aa x.1).1).length:Int) - (x_2.2.2+1)).toNat<((↑(ab (aa x.1).1).length:Int) - x_2.2.2).toNat)∧((!bp x_2.1 ((ab (aa x.1).1).getD x_2.2.2.toNat 0))=false→True∧((0:Int)≤0∧0≤(↑(ah x.1 ((ab (aa x.1).1).getD x_2.2.2.toNat 0) (ac ((ab (aa x.1).1).getD x_2.2.2.toNat 0) (aa x.1).1).1).length:Int)∧(∀ (x:Int),x∈x_2.1→x∈x_2.1)∧(∀ (x_3:Int),x_3∈x_2.1→x_3∈x_2.1∨x_3∈ah x.1 ((ab (aa x.1).1).getD x_2.2.2.toNat 0) (ac ((ab (aa x.1).1).getD x_2.2.2.toNat 0) (aa x.1).1).1∧0≤x_3)∧x_2.1.length+cj x_2.1≤x_2.1.length+cj x_2.1∧(x_2.2.1=false→x_2.2.1=false∧x_2.1=x_2.1∧∀ (y:Int),y∈List.take (Int.toNat 0) (ah x.1 ((ab (aa x.1).1).getD x_2.2.2.toNat 0) (ac ((ab (aa x.1).1).getD x_2.2.2.toNat 0) (aa x.1).1).1)→0≤y→y∈x_2.1)∧(x_2.2.1=true→x_2.2.1=true∨cj x_2.1<cj x_2.1)∧(x_2.2.1=true→x_2.2.1=true))∧∀ (x_3:List Int×Bool×Int),0≤x_3.2.2∧x_3.2.2≤(↑(ah x.1 ((ab (aa x.1).1).getD x_2.2.2.toNat 0) (ac ((ab (aa x.1).1).getD x_2.2.2.toNat 0) (aa x.1).1).1).length:Int)∧(∀ (x:Int),x∈x_2.1→x∈x_3.1)∧(∀ (x_4:Int),x_4∈x_3.1→x_4∈x_2.1∨x_4∈ah x.1 ((ab (aa x.1).1).getD x_2.2.2.toNat 0) (ac ((ab (aa x.1).1).getD x_2.2.2.toNat 0) (aa x.1).1).1∧0≤x_4)∧x_3.1.length+cj x_2.1≤x_2.1.length+cj x_3.1∧(x_3.2.1=false→x_2.2.1=false∧x_3.1=x_2.1∧∀ (y:Int),y∈List.take x_3.2.2.toNat (ah x.1 ((ab (aa x.1).1).getD x_2.2.2.toNat 0) (ac ((ab (aa x.1).1).getD x_2.2.2.toNat 0) (aa x.1).1).1)→0≤y→y∈x_2.1)∧(x_3.2.1=true→x_2.2.1=true∨cj x_2.1<cj x_3.1)∧(x_2.2.1=true→x_3.2.1=true)→(decide (x_3.2.2<(↑(ah x.1 ((ab (aa x.1).1).getD x_2.2.2.toNat 0) (ac ((ab (aa x.1).1).getD x_2.2.2.toNat 0) (aa x.1).1).1).length:Int))=true→0≤x_3.2.2∧x_3.2.2<(↑(ah x.1 ((ab (aa x.1).1).getD x_2.2.2.toNat 0) (ac ((ab (aa x.1).1).getD x_2.2.2.toNat 0) (aa x.1).1).1).length:Int)∧x_3.2.2.toNat<(ah x.1 ((ab (aa x.1).1).getD x_2.2.2.toNat 0) (ac ((ab (aa x.1).1).getD x_2.2.2.toNat 0) (aa x.1).1).1).length∧(decide (0≤(ah x.1 ((ab (aa x.1).1).getD x_2.2.2.toNat 0) (ac ((ab (aa x.1).1).getD x_2.2.2.toNat 0) (aa x.1).1).1).getD x_3.2.2.toNat 0)=true→True)∧((decide (0≤(ah x.1 ((ab (aa x.1).1).getD x_2.2.2.toNat 0) (ac ((ab (aa x.1).1).getD x_2.2.2.toNat 0) (aa x.1).1).1).getD x_3.2.2.toNat 0)&&!bp x_3.1 ((ah x.1 ((ab (aa x.1).1).getD x_2.2.2.toNat 0) (ac ((ab (aa x.1).1).getD x_2.2.2.toNat 0) (aa x.1).1).1).getD x_3.2.2.toNat 0))=true→(x_3.1.length+[(ah x.1 ((ab (aa x.1).1).getD x_2.2.2.toNat 0) (ac ((ab (aa x.1).1).getD x_2.2.2.toNat 0) (aa x.1).1).1).getD x_3.2.2.toNat 0].length) * 8≤aL∧aj .i64 (x_3.2.2+1)∧(0≤x_3.2.2+1∧x_3.2.2+1≤(↑(ah x.1 ((ab (aa x.1).1).getD x_2.2.2.toNat 0) (ac ((ab (aa x.1).1).getD x_2.2.2.toNat 0) (aa x.1).1).1).length:Int)∧(∀ (x_4:Int),x_4∈x_2.1→x_4∈x_3.1++[(ah x.1 ((ab (aa x.1).1).getD x_2.2.2.toNat 0) (ac ((ab (aa x.1).1).getD x_2.2.2.toNat 0) (aa x.1).1).1).getD x_3.2.2.toNat 0])∧(∀ (x_4:Int),x_4∈x_3.1++[(ah x.1 ((ab (aa x.1).1).getD x_2.2.2.toNat 0) (ac ((ab (aa x.1).1).getD x_2.2.2.toNat 0) (aa x.1).1).1).getD x_3.2.2.toNat 0]→x_4∈x_2.1∨x_4∈ah x.1 ((ab (aa x.1).1).getD x_2.2.2.toNat 0) (ac ((ab (aa x.1).1).getD x_2.2.2.toNat 0) (aa x.1).1).1∧0≤x_4)∧(x_3.1++[(ah x.1 ((ab (aa x.1).1).getD x_2.2.2.toNat 0) (ac ((ab (aa x.1).1).getD x_2.2.2.toNat 0) (aa x.1).1).1).getD x_3.2.2.toNat 0]).length+cj x_2.1≤x_2.1.length+cj (x_3.1++[(ah x.1 ((ab (aa x.1).1).getD x_2.2.2.toNat 0) (ac ((ab (aa x.1).1).getD x_2.2.2.toNat 0) (aa x.1).1).1).getD x_3.2.2.toNat 0])∧(true=false→x_2.2.1=false∧x_3.1++[(ah x.1 ((ab (aa x.1).1).getD x_2.2.2.toNat 0) (ac ((ab (aa x.1).1).getD x_2.2.2.toNat 0) (aa x.1).1).1).getD x_3.2.2.toNat 0]=x_2.1∧∀ (y:Int),y∈List.take (x_3.2.2+1).toNat (ah x.1 ((ab (aa x.1).1).getD x_2.2.2.toNat 0) (ac ((ab (aa x.1).1).getD x_2.2.2.toNat 0) (aa x.1).1).1)→0≤y→y∈x_2.1)∧(true=true→x_2.2.1=true∨cj x_2.1<cj (x_3.1++[(ah x.1 ((ab (aa x.1).1).getD x_2.2.2.toNat 0) (ac ((ab (aa x.1).1).getD x_2.2.2.toNat 0) (aa x.1).1).1).getD x_3.2.2.toNat 0]))∧(x_2.2.1=true→true=true))∧((↑(ah x.1 ((ab (aa x.1).1).getD x_2.2.2.toNat 0) (ac ((ab (aa x.1).1).getD x_2.2.2.toNat 0) (aa x.1).1).1).length:Int) - (x_3.2.2+1)).toNat<((↑(ah x.1 ((ab (aa x.1).1).getD x_2.2.2.toNat 0) (ac ((ab (aa x.1).1).getD x_2.2.2.toNat 0) (aa x.1).1).1).length:Int) - x_3.2.2).toNat)∧((decide (0≤(ah x.1 ((ab (aa x.1).1).getD x_2.2.2.toNat 0) (ac ((ab (aa x.1).1).getD x_2.2.2.toNat 0) (aa x.1).1).1).getD x_3.2.2.toNat 0)&&!bp x_3.1 ((ah x.1 ((ab (aa x.1).1).getD x_2.2.2.toNat 0) (ac ((ab (aa x.1).1).getD x_2.2.2.toNat 0) (aa x.1).1).1).getD x_3.2.2.toNat 0))=false→aj .i64 (x_3.2.2+1)∧(0≤x_3.2.2+1∧x_3.2.2+1≤(↑(ah x.1 ((ab (aa x.1).1).getD x_2.2.2.toNat 0) (ac ((ab (aa x.1).1).getD x_2.2.2.toNat 0) (aa x.1).1).1).length:Int)∧(∀ (x:Int),x∈x_2.1→x∈x_3.1)∧(∀ (x_4:Int),x_4∈x_3.1→x_4∈x_2.1∨x_4∈ah x.1 ((ab (aa x.1).1).getD x_2.2.2.toNat 0) (ac ((ab (aa x.1).1).getD x_2.2.2.toNat 0) (aa x.1).1).1∧0≤x_4)∧x_3.1.length+cj x_2.1≤x_2.1.length+cj x_3.1∧(x_3.2.1=false→x_2.2.1=false∧x_3.1=x_2.1∧∀ (y:Int),y∈List.take (x_3.2.2+1).toNat (ah x.1 ((ab (aa x.1).1).getD x_2.2.2.toNat 0) (ac ((ab (aa x.1).1).getD x_2.2.2.toNat 0) (aa x.1).1).1)→0≤y→y∈x_2.1)∧(x_3.2.1=true→x_2.2.1=true∨cj x_2.1<cj x_3.1)∧(x_2.2.1=true→x_3.2.1=true))∧((↑(ah x.1 ((ab (aa x.1).1).getD x_2.2.2.toNat 0) (ac ((ab (aa x.1).1).getD x_2.2.2.toNat 0) (aa x.1).1).1).length:Int) - (x_3.2.2+1)).toNat<((↑(ah x.1 ((ab (aa x.1).1).getD x_2.2.2.toNat 0) (ac ((ab (aa x.1).1).getD x_2.2.2.toNat 0) (aa x.1).1).1).length:Int) - x_3.2.2).toNat))∧(decide (x_3.2.2<(↑(ah x.1 ((ab (aa x.1).1).getD x_2.2.2.toNat 0) (ac ((ab (aa x.1).1).getD x_2.2.2.toNat 0) (aa x.1).1).1).length:Int))=false→aj .i64 (x_2.2.2+1)∧(0≤x_2.2.2+1∧x_2.2.2+1≤(↑(ab (aa x.1).1).length:Int)∧InReach x.1 x.2 x_3.1∧(x_3.2.1=false→x_3.1=x_1.1∧∀ (x_4:Int),x_4∈List.take (x_2.2.2+1).toNat (ab (aa x.1).1)→x_4∈x_1.1→∀ (y:Int),y∈ay x.1 x_4→y∈x_1.1)∧(x_3.2.1=true→cj x_1.1<cj x_3.1))∧((↑(ab (aa x.1).1).length:Int) - (x_2.2.2+1)).toNat<((↑(ab (aa x.1).1).length:Int) - x_2.2.2).toNat)))∧(decide (x_2.2.2<(↑(ab (aa x.1).1).length:Int))=false→(InReach x.1 x.2 x_2.1∧(x_2.2.1=false→eB x.1 x_2.1=true))∧(2 * (256 - cj x_2.1)+if x_2.2.1=true then (1:Nat) else (0:Nat))<2 * (256 - cj x_1.1)+if x_1.2=true then (1:Nat) else (0:Nat)))∧(x_1.2=false→True∧bv x_1.1 256=cp x.1 x.2∧True)
theorem ol:kc:=by
 unfold kc
 intro ⟨a,f⟩ ⟨⟨hb,hw⟩,hbf,hf⟩ ⟨hff,hlen⟩
 simp only at hb hw hbf hf hff hlen ⊢
 obtain ⟨hc,hfb⟩:=i9 hff
 have hall:∀ x,Rch a f x→x∈ab (aa a).1:=fun x hx=>bi.1 ((aS x _).trans (hx.isB hw hc hfb))
 have hbl:=aG (aa a).1
 have hsl:=aR a
 have hbeg:∀ x∈ab (aa a).1,isB (aa a).1 x=true:=fun x hx=>by rw [← aS]; exact bi.2 hx
 generalize hall0:ab (aa a).1=all at *
 refine ⟨trivial,hbf,⟨⟨fun x hx=>hx,fun x hx=>.base hx,Nat.le_refl _⟩,fun h=>by cases h⟩,fun ⟨l0,ag0⟩ ⟨q1,q2⟩=>⟨fun hag=>?_,fun hag=>?_⟩⟩
 ·simp only at q1 q2 hag ⊢
  subst hag
  refine ⟨⟨by omega,by omega,q1,fun _=>⟨trivial,fun x hx=>by simp at hx⟩,fun h=>by cases h⟩,fun ⟨l,ag,i⟩ ⟨i0,i1,r1,r2,r3⟩=>⟨fun hlt=>?_,fun hge=>?_⟩⟩
  ·simp only at i0 i1 r1 r2 r3 hlt ⊢
   have hlt:=of_decide_eq_true hlt
   have ht:=aI (0:Int) i0 hlt
   have hat:=bk (0:Int) i0 hlt
   generalize all.getD i.toNat 0=at_ at *
   have hib:=hbeg _ hat
   refine ⟨i0,hlt,by omega,trivial,fun hin=>?_,fun hin=>?_⟩
   ·have hin:=wq hin
    simp only [aj]
    refine ⟨by omega,⟨by omega,by omega,r1,fun hf0=>⟨(r2 hf0).1,fun x hx hx0=>?_⟩,r3⟩,by omega⟩
    rw [ht] at hx
    rcases List.mem_append.1 hx with hx | hx
    ·exact (r2 hf0).2 x hx hx0
    ·rw [List.mem_singleton.1 hx] at hx0
     rw [(r2 hf0).1] at hin
     exact absurd hx0 hin
   ·have hin:=wo hin
    have hno:=fun y=>ry hw hc hib (y:=y)
    have hnl:(ah a at_ (ac at_ (aa a).1).1).length≤256:=by
     have:=(qp hib).2.2.2.2
     simp only [ah,List.length_map,List.length_drop,List.length_take]; omega
    generalize ah a at_ (ac at_ (aa a).1).1=ns at *
    refine ⟨trivial,⟨by omega,by omega,fun x hx=>hx,fun x hx=>.inl hx,by omega,fun h=>⟨h,trivial,fun y hy=>by simp at hy⟩,fun h=>.inl h,fun h=>h⟩,fun ⟨l2,ag2,j⟩ ⟨j0,j1,s1,s2,s3,s4,s5,s6⟩=>⟨fun hj=>?_,fun hj=>?_⟩⟩
    ·simp only at j0 j1 s1 s2 s3 s4 s5 s6 hj ⊢
     have hj:=of_decide_eq_true hj
     have ht2:=aI (0:Int) j0 hj
     have hv:=bk (0:Int) j0 hj
     generalize ns.getD j.toNat 0=v at *
     refine ⟨j0,hj,by omega,fun _=>trivial,fun hcd=>?_,fun hcd=>?_⟩
     ·rw [Bool.and_eq_true] at hcd
      have h0:=of_decide_eq_true hcd.1
      have hn:=wq hcd.2
      have hvr:=cq (jz hw hc hib ((hno v).1 ⟨hv,h0⟩))
      have hlt2:=uM (l:=l2) (k:=l2++[v]) (fun x hx=>by simp [hx]) (y:=v) (by simp) hn hvr.1 hvr.2
      have hle:=qP s1
      have hc2:=rR (l2++[v])
      have:=r1.len
      unfold aL
      simp only [List.length_append,List.length_singleton,aj]
      refine ⟨by omega,by omega,⟨by omega,by omega,fun x hx=>List.mem_append_left _ (s1 x hx),fun x hx=>?_,by omega,fun h=>(by cases h),fun _=>.inr (by omega),fun _=>trivial⟩,by omega⟩
      rcases List.mem_append.1 hx with hx | hx
      ·exact s2 x hx
      ·rw [List.mem_singleton.1 hx]
       exact .inr ⟨hv,h0⟩
     ·simp only [aj]
      refine ⟨by omega,⟨by omega,by omega,s1,s2,s3,fun h=>⟨(s4 h).1,(s4 h).2.1,fun y hy hy0=>?_⟩,s5,s6⟩,by omega⟩
      rw [ht2] at hy
      rcases List.mem_append.1 hy with hy | hy
      ·exact (s4 h).2.2 y hy hy0
      ·have hyv:=List.mem_singleton.1 hy
       rw [hyv] at hy0 ⊢
       rw [decide_eq_true hy0,Bool.true_and] at hcd
       rw [← (s4 h).2.1]
       exact wo hcd
    ·simp only at j0 j1 s1 s2 s3 s4 s5 s6 hj ⊢
     have hj:=of_decide_eq_false hj
     rw [aX hj] at s4
     have hmo:=qP s1
     have:=r1.len
     simp only [aj]
     refine ⟨by omega,⟨by omega,by omega,⟨fun x hx=>s1 x (r1.has x hx),fun x hx=>?_,by omega⟩,fun h=>?_,fun h=>?_⟩,by omega⟩
     ·rcases s2 x hx with hx | hx
      ·exact r1.only x hx
      ·exact .step (r1.only _ hin) ((hno x).1 hx)
     ·obtain ⟨g1,g2,g3⟩:=s4 h
      refine ⟨g2.trans (r2 g1).1,fun x hx hx0 y hy=>?_⟩
      rw [ht] at hx
      rcases List.mem_append.1 hx with hx | hx
      ·exact (r2 g1).2 x hx hx0 y hy
      ·rw [List.mem_singleton.1 hx] at hy
       obtain ⟨k1,k2⟩:=(hno y).2 hy
       rw [← (r2 g1).1]
       exact g3 y k1 k2
     ·rcases s5 h with h | h
      ·have:=r3 h; omega
      ·cases ag with
       | true=>have:=r3 rfl; omega
       | false=>have:=(r2 rfl).1; subst this; omega
  ·simp only at i0 i1 r1 r2 r3 hge ⊢
   have hge:=of_decide_eq_false hge
   rw [aX hge] at r2
   have hc2:=rR l
   refine ⟨⟨r1,fun h=>fj.2 (fun x hx=>?_)⟩,?_⟩
   ·obtain ⟨e,h2⟩:=r2 h
    subst e
    exact h2 x (hall x (r1.only x hx)) hx
   ·cases ag with
    | true=>have:=r3 rfl; simp only [if_true]; omega
    | false=>have:=(r2 rfl).1; subst this; simp only [if_true,Bool.false_eq_true,if_false]; omega
 ·simp only at q1 q2 hag ⊢
  have hcl:=fj.1 (q2 hag)
  exact ⟨trivial,(Full.mk q1.has q1.only hcl).rising hw hc hfb,trivial⟩
theorem qj:pT.ok Try.prog 32:=bJ (ann:=qS) (ai eO (ai lH (ai jB (ai lG aJ)))) Try.func32 (by kernel_rfl) ol
def cr (m:List (Int×eU)):List aH→List (Int×eU)
 | []=>m
 | s::l=>cr (if s.2.2.2.2=true then m else aM m s.1 s.2) l
def fR (l:List aH):List (Int×eU):=cr [] l
theorem gZ (x:Int):∀ (l:List aH) (m:List (Int×eU)),l.Pairwise (fun s t=>s.1<t.1)→ae (cr m l) x=if isB l x=true then some (ac x l).1 else ae m x
 | [],m,_=>rfl
 | s::l,m,h=>by
  obtain ⟨h1,h2⟩:=List.pairwise_cons.1 h
  have e0:cr m (s::l)=cr (if s.2.2.2.2=true then m else aM m s.1 s.2) l:=rfl
  rw [e0,gZ x l _ h2]
  by_cases hx:s.1=x∧s.2.2.2.2=false
  ·have e1:ac x (s::l)=(s.2,true):=if_pos hx
   have e2:isB (s::l) x=true:=by unfold isB; rw [e1]
   have hn:¬ isB l x=true:=by
    rw [← aS,bi]
    intro hm
    have:∃ t∈l,t.1=x:=by
     clear h h2 hx e0 e1 e2
     induction l with
     | nil=>cases hm
     | cons t l ih =>
      simp only [ab] at hm
      split at hm
      ·obtain ⟨u,hu,e⟩:=ih (fun y hy=>h1 y (by simp [hy])) hm
       exact ⟨u,by simp [hu],e⟩
      ·rcases List.mem_cons.1 hm with hm | hm
       ·exact ⟨t,by simp,hm.symm⟩
       ·obtain ⟨u,hu,e⟩:=ih (fun y hy=>h1 y (by simp [hy])) hm
        exact ⟨u,by simp [hu],e⟩
    obtain ⟨t,ht,e⟩:=this
    have:=h1 t ht
    omega
   rw [if_neg hn,if_pos e2,e1,if_neg (by rw [hx.2]; simp),cH,if_pos hx.1.symm]
  ·have e1:ac x (s::l)=ac x l:=if_neg hx
   have e2:isB (s::l) x=isB l x:=by unfold isB; rw [e1]
   rw [e2,e1]
   by_cases hb:isB l x=true
   ·rw [if_pos hb,if_pos hb]
   ·rw [if_neg hb,if_neg hb]
    by_cases hf:s.2.2.2.2=true
    ·rw [if_pos hf]
    ·rw [if_neg hf,cH,if_neg (fun e=>hx ⟨e.symm,by simpa using hf⟩)]
theorem tk {l:List aH} (h:l.Pairwise (fun s t=>s.1<t.1)) (x:Int):ae (fR l) x=if isB l x=true then some (ac x l).1 else none:=gZ x l [] h
theorem dj:∀ (l k:List aH),ab (l++k)=ab l++ab k
 | [],_=>rfl
 | s::l,k=>by
  have:=dj l k
  simp only [List.cons_append,ab,this]
  split <;> simp
structure Seen (m:List (Int×Bool)) (o:List Int):Prop where
 nodup:o.Nodup
 is:∀ x,(ae m x).getD false=bp o x
theorem Seen.new:Seen [] []:=⟨List.nodup_nil,fun _=>rfl⟩
theorem Seen.add {m:List (Int×Bool)} {o:List Int} {x:Int} (h:Seen m o) (hn:(!(ae m x).getD false)=true):Seen (aM m x true) (o++[x]):=by
 rw [h.is] at hn
 refine ⟨?_,fun y=>?_⟩
 ·rw [List.nodup_append]
  exact ⟨h.nodup,by simp,fun y hy z hz=>by rw [List.mem_singleton.1 hz]; rintro rfl; exact wq hn hy⟩
 ·rw [cH]
  by_cases hy:y=x
  ·subst hy
   rw [if_pos rfl]
   exact (bi.2 (by simp)).symm
  ·rw [if_neg hy,h.is]
   unfold bp
   rw [List.any_append]
   simp [Ne.symm hy]
theorem Seen.mem {m:List (Int×Bool)} {o:List Int} {x:Int} (h:Seen m o) (hn:(!(ae m x).getD false)=false):x∈o:=by
 rw [h.is] at hn
 exact wo hn
theorem fy {o:List Int} (hd:o.Nodup) (hr:∀ x∈o,0≤x∧x≤255):o.length≤256:=by
 have h1:=fK o
 have h2:(db o).Nodup:=(List.mergeSort_perm o _).nodup_iff.2 hd
 have h3:(db o).Pairwise (·<·):=(h1.and h2).imp (fun ⟨x,y⟩=>by omega)
 have h4:=gb (s:=0) h3 (fun x hx=>hr x (jt.1 hx)) (by omega)
 rw [oJ] at h4
 omega
def uW:LoopGen:={ rd:=[.own 30 158 cY,.dat 0 (.arr ci)],A:=fun ((l,a):List aH×List Int)=>{ cs:=[.boxS 24 [.dat (.arr ci),.mpc 22,.own 3 ty_I],.map 22 .i64 dl,.dat 32 ty_I],inv:=fun ((b,m,i):(List Int×Unit×List Int)×List (Int×eU)×Int)=>0≤i∧i≤l.length∧b.1=a∧b.2.2=ab (l.take i.toNat)∧cr m (l.drop i.toNat)=fR l,mu:=fun ((_,_,i):(List Int×Unit×List Int)×List (Int×eU)×Int)=>(l.length - i).toNat } }
def uV:LoopGen:={ rd:=[.dat 60 (.arr ty_I),.map 22 .i64 dl],A:=fun ((f,m):List Int×List (Int×eU))=>{ cs:=[.dat 62 ty_I],inv:=fun (i:Int)=>0≤i∧i≤f.length∧((f.drop i.toNat).all fun x=>(ae m x).isSome)=(f.all fun x=>(ae m x).isSome),mu:=fun (i:Int)=>(f.length - i).toNat } }
def uS:Nat→Option LoopGen
 | 3000089=>some dP
 | 3000091=>some dP
 | 3000090=>some dP
 | 9000000007=>some uW
 | 9000000014=>some uV
 | 8=>some { rd:=[.dat 25 (.arr ty_I)],A:=fun (f:List Int)=>{ cs:=[.map 23 .i64 .bool,.boxS 9 [.own 3 ty_I],.dat 27 ty_I],inv:=fun ((m,o,i):List (Int×Bool)×List Int×Int)=>0≤i∧i≤f.length∧Seen m o∧(∀ x∈f.take i.toNat,x∈o)∧(∀ x∈o,x∈f),mu:=fun ((_,_,i):List (Int×Bool)×List Int×Int)=>(f.length - i).toNat } }
 | 13=>some { rd:=[.dat 0 (.arr ci),.dat 1 (.arr ty_I)],A:=fun ((a,f):List Int×List Int)=>{ cs:=[.map 23 .i64 .bool,.boxS 9 [.own 3 ty_I],.dat 13 ty_I],inv:=fun ((m,o,i):List (Int×Bool)×List Int×Int)=>0≤i∧i≤o.length∧Seen m o∧(∀ x∈f,x∈o)∧(∀ x∈o,Rch a f x)∧(∀ x∈o.take i.toNat,∀ y∈ay a x,y∈o),mu:=fun ((_,_,i):List (Int×Bool)×List Int×Int)=>(256 - i).toNat } }
 | 9200000001=>some { rd:=[.dat 24 (.arr ci),.boxS 9900000 [.own 3 ty_I]],A:=fun ((rs,o0):List Int×List Int)=>{ cs:=[.map 23900000 .i64 .bool,.boxS 9900000 [.own 3 ty_I],.dat 26 ty_I],inv:=fun ((m,o,j):List (Int×Bool)×List Int×Int)=>0≤j∧j≤rs.length∧Seen m o∧(∃ k,o=o0++k∧∀ x∈k,x+1∈rs∧x+1≠0)∧(∀ v∈rs.take j.toNat,v≠0→v - 1∈o),mu:=fun ((_,_,j):List (Int×Bool)×List Int×Int)=>(rs.length - j).toNat } }
 | _=>none
def tQ:Spec:={ Ts:=[.arr ci,.arr ty_I],Rs:=[.own 3 ty_I,.dat ty_I],pre:=fun _=>True,F:=fun ((a,f):List Int×List Int)=>bn a f }
def qa:Prop :=
  ∀ (x:List Int×List Int),((x.1.length * 8≤aL∧∀ (x_1:Int),x_1∈x.1→aj .u64 x_1)∧x.2.length * 8≤aL∧∀ (x_1:Int),x_1∈x.2→aj .i64 x_1)→True→∀ (_:Array Value),True∧(decide ((ao x.1).2.2≠0)=true→(decide ((ao x.1).2.2≠0)=true→([]:List Int)=(bn x.1 x.2).1∧(ao x.1).2.2=(bn x.1 x.2).2∧True)∧(decide ((ao x.1).2.2≠0)=false→((0:Int)≤0∧0≤(↑x.2.length:Int)∧Seen ([]:List (Int×Bool)) ([]:List Int)∧(∀ (x_1:Int),x_1∈List.take (Int.toNat 0) x.2→x_1∈([]:List Int))∧∀ (x_1:Int),x_1∈([]:List Int)→x_1∈x.2)∧∀ (x_1:List (Int×Bool)×List Int×Int),(0≤x_1.2.2∧x_1.2.2≤(↑x.2.length:Int)∧Seen x_1.1 x_1.2.1∧(∀ (x_2:Int),x_2∈List.take x_1.2.2.toNat x.2→x_2∈x_1.2.1)∧∀ (x_2:Int),x_2∈x_1.2.1→x_2∈x.2)→(decide (x_1.2.2<(↑x.2.length:Int))=true→0≤x_1.2.2∧x_1.2.2<(↑x.2.length:Int)∧∀ (_:Array Value),((!(ae x_1.1 (x.2.getD x_1.2.2.toNat 0)).getD false)=true→(x_1.2.1.length+[x.2.getD x_1.2.2.toNat 0].length) * 8≤aL∧aj .i64 (x_1.2.2+1)∧(0≤x_1.2.2+1∧x_1.2.2+1≤(↑x.2.length:Int)∧Seen (aM x_1.1 (x.2.getD x_1.2.2.toNat 0) true) (x_1.2.1++[x.2.getD x_1.2.2.toNat 0])∧(∀ (x_2:Int),x_2∈List.take (x_1.2.2+1).toNat x.2→x_2∈x_1.2.1++[x.2.getD x_1.2.2.toNat 0])∧∀ (x_2:Int),x_2∈x_1.2.1++[x.2.getD x_1.2.2.toNat 0]→x_2∈x.2)∧((↑x.2.length:Int) - (x_1.2.2+1)).toNat<((↑x.2.length:Int) - x_1.2.2).toNat)∧((!(ae x_1.1 (x.2.getD x_1.2.2.toNat 0)).getD false)=false→aj .i64 (x_1.2.2+1)∧(0≤x_1.2.2+1∧x_1.2.2+1≤(↑x.2.length:Int)∧Seen x_1.1 x_1.2.1∧(∀ (x_2:Int),x_2∈List.take (x_1.2.2+1).toNat x.2→x_2∈x_1.2.1)∧∀ (x_2:Int),x_2∈x_1.2.1→x_2∈x.2)∧((↑x.2.length:Int) - (x_1.2.2+1)).toNat<((↑x.2.length:Int) - x_1.2.2).toNat))∧(decide (x_1.2.2<(↑x.2.length:Int))=false→((0:Int)≤0∧0≤(↑x_1.2.1.length:Int)∧Seen x_1.1 x_1.2.1∧(∀ (x_2:Int),x_2∈x.2→x_2∈x_1.2.1)∧(∀ (x_2:Int),x_2∈x_1.2.1→Rch x.1 x.2 x_2)∧∀ (x_2:Int),x_2∈List.take (Int.toNat 0) x_1.2.1→∀ (y:Int),y∈ay x.1 x_2→y∈x_1.2.1)∧∀ (x_2:List (Int×Bool)×List Int×Int),(0≤x_2.2.2∧x_2.2.2≤(↑x_2.2.1.length:Int)∧Seen x_2.1 x_2.2.1∧(∀ (x_3:Int),x_3∈x.2→x_3∈x_2.2.1)∧(∀ (x_3:Int),x_3∈x_2.2.1→Rch x.1 x.2 x_3)∧∀ (x_3:Int),x_3∈List.take x_2.2.2.toNat x_2.2.1→∀ (y:Int),y∈ay x.1 x_3→y∈x_2.2.1)→(decide (x_2.2.2<(↑x_2.2.1.length:Int))=true→0≤x_2.2.2∧x_2.2.2<(↑x_2.2.1.length:Int)∧x_2.2.2.toNat<x_2.2.1.length∧∀ (_:Array Value),False)∧(decide (x_2.2.2<(↑x_2.2.1.length:Int))=false→True∧db x_2.2.1=(bn x.1 x.2).1∧0=(bn x.1 x.2).2∧True))))∧(decide ((ao x.1).2.2≠0)=false→True∧((0:Int)≤0∧0≤(↑(aa x.1).1.length:Int)∧x.1=x.1∧((),([]:List Int)).2=ab (List.take (Int.toNat 0) (aa x.1).1)∧cr ([]:List (Int×Int×Int×Int×Bool)) (List.drop (Int.toNat 0) (aa x.1).1)=fR (aa x.1).1)∧∀ (x_1:(List Int×Unit×List Int)×List (Int×Int×Int×Int×Bool)×Int),0≤x_1.2.2∧x_1.2.2≤(↑(aa x.1).1.length:Int)∧x_1.1.1=x.1∧x_1.1.2.2=ab (List.take x_1.2.2.toNat (aa x.1).1)∧cr x_1.2.1 (List.drop x_1.2.2.toNat (aa x.1).1)=fR (aa x.1).1→(decide (x_1.2.2<(↑(aa x.1).1.length:Int))=true→0≤x_1.2.2∧x_1.2.2<(↑(aa x.1).1.length:Int)∧x_1.2.2.toNat<(aa x.1).1.length∧((!((aa x.1).1.getD x_1.2.2.toNat (0,0,0,0,false)).2.2.2.2)=true→(x_1.1.2.2.length+[((aa x.1).1.getD x_1.2.2.toNat (0,0,0,0,false)).1].length) * 8≤aL∧aj .i64 (x_1.2.2+1)∧(0≤x_1.2.2+1∧x_1.2.2+1≤(↑(aa x.1).1.length:Int)∧x_1.1.1=x.1∧((),x_1.1.2.2++[((aa x.1).1.getD x_1.2.2.toNat (0,0,0,0,false)).1]).2=ab (List.take (x_1.2.2+1).toNat (aa x.1).1)∧cr (aM x_1.2.1 ((aa x.1).1.getD x_1.2.2.toNat (0,0,0,0,false)).1 ((aa x.1).1.getD x_1.2.2.toNat (0,0,0,0,false)).2) (List.drop (x_1.2.2+1).toNat (aa x.1).1)=fR (aa x.1).1)∧((↑(aa x.1).1.length:Int) - (x_1.2.2+1)).toNat<((↑(aa x.1).1.length:Int) - x_1.2.2).toNat)∧((!((aa x.1).1.getD x_1.2.2.toNat (0,0,0,0,false)).2.2.2.2)=false→aj .i64 (x_1.2.2+1)∧(0≤x_1.2.2+1∧x_1.2.2+1≤(↑(aa x.1).1.length:Int)∧x_1.1.1=x.1∧((),x_1.1.2.2).2=ab (List.take (x_1.2.2+1).toNat (aa x.1).1)∧cr x_1.2.1 (List.drop (x_1.2.2+1).toNat (aa x.1).1)=fR (aa x.1).1)∧((↑(aa x.1).1.length:Int) - (x_1.2.2+1)).toNat<((↑(aa x.1).1.length:Int) - x_1.2.2).toNat))∧(decide (x_1.2.2<(↑(aa x.1).1.length:Int))=false→((0:Int)≤0∧0≤(↑x.2.length:Int)∧((List.drop (Int.toNat 0) x.2).all fun (x:Int)=>(ae x_1.2.1 x).isSome)=x.2.all fun (x:Int)=>(ae x_1.2.1 x).isSome)∧∀ (x_2:Int),(0≤x_2∧x_2≤(↑x.2.length:Int)∧((List.drop x_2.toNat x.2).all fun (x:Int)=>(ae x_1.2.1 x).isSome)=x.2.all fun (x:Int)=>(ae x_1.2.1 x).isSome)→(decide (x_2<(↑x.2.length:Int))=true→0≤x_2∧x_2<(↑x.2.length:Int)∧((!(ae x_1.2.1 (x.2.getD x_2.toNat 0)).isSome)=true→(decide ((5:Int)≠0)=true→([]:List Int)=(bn x.1 x.2).1∧5=(bn x.1 x.2).2∧True)∧(decide ((5:Int)≠0)=false→((0:Int)≤0∧0≤(↑x.2.length:Int)∧Seen ([]:List (Int×Bool)) ([]:List Int)∧(∀ (x_3:Int),x_3∈List.take (Int.toNat 0) x.2→x_3∈([]:List Int))∧∀ (x_3:Int),x_3∈([]:List Int)→x_3∈x.2)∧∀ (x_3:List (Int×Bool)×List Int×Int),(0≤x_3.2.2∧x_3.2.2≤(↑x.2.length:Int)∧Seen x_3.1 x_3.2.1∧(∀ (x_4:Int),x_4∈List.take x_3.2.2.toNat x.2→x_4∈x_3.2.1)∧∀ (x_4:Int),x_4∈x_3.2.1→x_4∈x.2)→(decide (x_3.2.2<(↑x.2.length:Int))=true→0≤x_3.2.2∧x_3.2.2<(↑x.2.length:Int)∧∀ (_:Array Value),((!(ae x_3.1 (x.2.getD x_3.2.2.toNat 0)).getD false)=true→(x_3.2.1.length+[x.2.getD x_3.2.2.toNat 0].length) * 8≤aL∧aj .i64 (x_3.2.2+1)∧(0≤x_3.2.2+1∧x_3.2.2+1≤(↑x.2.length:Int)∧Seen (aM x_3.1 (x.2.getD x_3.2.2.toNat 0) true) (x_3.2.1++[x.2.getD x_3.2.2.toNat 0])∧(∀ (x_4:Int),x_4∈List.take (x_3.2.2+1).toNat x.2→x_4∈x_3.2.1++[x.2.getD x_3.2.2.toNat 0])∧∀ (x_4:Int),x_4∈x_3.2.1++[x.2.getD x_3.2.2.toNat 0]→x_4∈x.2)∧((↑x.2.length:Int) - (x_3.2.2+1)).toNat<((↑x.2.length:Int) - x_3.2.2).toNat)∧((!(ae x_3.1 (x.2.getD x_3.2.2.toNat 0)).getD false)=false→aj .i64 (x_3.2.2+1)∧(0≤x_3.2.2+1∧x_3.2.2+1≤(↑x.2.length:Int)∧Seen x_3.1 x_3.2.1∧(∀ (x_4:Int),x_4∈List.take (x_3.2.2+1).toNat x.2→x_4∈x_3.2.1)∧∀ (x_4:Int),x_4∈x_3.2.1→x_4∈x.2)∧((↑x.2.length:Int) - (x_3.2.2+1)).toNat<((↑x.2.length:Int) - x_3.2.2).toNat))∧(decide (x_3.2.2<(↑x.2.length:Int))=false→((0:Int)≤0∧0≤(↑x_3.2.1.length:Int)∧Seen x_3.1 x_3.2.1∧(∀ (x_4:Int),x_4∈x.2→x_4∈x_3.2.1)∧(∀ (x_4:Int),x_4∈x_3.2.1→Rch x.1 x.2 x_4)∧∀ (x_4:Int),x_4∈List.take (Int.toNat 0) x_3.2.1→∀ (y:Int),y∈ay x.1 x_4→y∈x_3.2.1)∧∀ (x_4:List (Int×Bool)×List Int×Int),(0≤x_4.2.2∧x_4.2.2≤(↑x_4.2.1.length:Int)∧Seen x_4.1 x_4.2.1∧(∀ (x_5:Int),x_5∈x.2→x_5∈x_4.2.1)∧(∀ (x_5:Int),x_5∈x_4.2.1→Rch x.1 x.2 x_5)∧∀ (x_5:Int),x_5∈List.take x_4.2.2.toNat x_4.2.1→∀ (y:Int),y∈ay x.1 x_5→y∈x_4.2.1)→(decide (x_4.2.2<(↑x_4.2.1.length:Int))=true→0≤x_4.2.2∧x_4.2.2<(↑x_4.2.1.length:Int)∧x_4.2.2.toNat<x_4.2.1.length∧∀ (_:Array Value),False)∧(decide (x_4.2.2<(↑x_4.2.1.length:Int))=false→True∧db x_4.2.1=(bn x.1 x.2).1∧0=(bn x.1 x.2).2∧True))))∧((!(ae x_1.2.1 (x.2.getD x_2.toNat 0)).isSome)=false→aj .i64 (x_2+1)∧(0≤x_2+1∧x_2+1≤(↑x.2.length:Int)∧((List.drop (x_2+1).toNat x.2).all fun (x:Int)=>(ae x_1.2.1 x).isSome)=x.2.all fun (x:Int)=>(ae x_1.2.1 x).isSome)∧((↑x.2.length:Int) - (x_2+1)).toNat<((↑x.2.length:Int) - x_2).toNat))∧(decide (x_2<(↑x.2.length:Int))=false→(decide ((0:Int)≠0)=true→([]:List Int)=(bn x.1 x.2).1∧0=(bn x.1 x.2).2∧True)∧(decide ((0:Int)≠0)=false→((0:Int)≤0∧0≤(↑x.2.length:Int)∧Seen ([]:List (Int×Bool)) ([]:List Int)∧(∀ (x_3:Int),x_3∈List.take (Int.toNat 0) x.2→x_3∈([]:List Int))∧∀ (x_3:Int),x_3∈([]:List Int)→x_3∈x.2)∧∀ (x_3:List (Int×Bool)×List Int×Int),(0≤x_3.2.2∧x_3.2.2≤(↑x.2.length:Int)∧Seen x_3.1 x_3.2.1∧(∀ (x_4:Int),x_4∈List.take x_3.2.2.toNat x.2→x_4∈x_3.2.1)∧∀ (x_4:Int),x_4∈x_3.2.1→x_4∈x.2)→(decide (x_3.2.2<(↑x.2.length:Int))=true→0≤x_3.2.2∧x_3.2.2<(↑x.2.length:Int)∧∀ (_:Array Value),((!(ae x_3.1 (x.2.getD x_3.2.2.toNat 0)).getD false)=true→(x_3.2.1.length+[x.2.getD x_3.2.2.toNat 0].length) * 8≤aL∧aj .i64 (x_3.2.2+1)∧(0≤x_3.2.2+1∧x_3.2.2+1≤(↑x.2.length:Int)∧Seen (aM x_3.1 (x.2.getD x_3.2.2.toNat 0) true) (x_3.2.1++[x.2.getD x_3.2.2.toNat 0])∧(∀ (x_4:Int),x_4∈List.take (x_3.2.2+1).toNat x.2→x_4∈x_3.2.1++[x.2.getD x_3.2.2.toNat 0])∧∀ (x_4:Int),x_4∈x_3.2.1++[x.2.getD x_3.2.2.toNat 0]→x_4∈x.2)∧((↑x.2.length:Int) - (x_3.2.2+1)).toNat<((↑x.2.length:Int) - x_3.2.2).toNat)∧((!(ae x_3.1 (x.2.getD x_3.2.2.toNat 0)).getD false)=false→aj .i64 (x_3.2.2+1)∧(0≤x_3.2.2+1∧x_3.2.2+1≤(↑x.2.length:Int)∧Seen x_3.1 x_3.2.1∧(∀ (x_4:Int),x_4∈List.take (x_3.2.2+1).toNat x.2→x_4∈x_3.2.1)∧∀ (x_4:Int),x_4∈x_3.2.1→x_4∈x.2)∧((↑x.2.length:Int) - (x_3.2.2+1)).toNat<((↑x.2.length:Int) - x_3.2.2).toNat))∧(decide (x_3.2.2<(↑x.2.length:Int))=false→((0:Int)≤0∧0≤(↑x_3.2.1.length:Int)∧Seen x_3.1 x_3.2.1∧(∀ (x_4:Int),x_4∈x.2→x_4∈x_3.2.1)∧(∀ (x_4:Int),x_4∈x_3.2.1→Rch x.1 x.2 x_4)∧∀ (x_4:Int),x_4∈List.take (Int.toNat 0) x_3.2.1→∀ (y:Int),y∈ay x.1 x_4→y∈x_3.2.1)∧∀ (x_4:List (Int×Bool)×List Int×Int),(0≤x_4.2.2∧x_4.2.2≤(↑x_4.2.1.length:Int)∧Seen x_4.1 x_4.2.1∧(∀ (x_5:Int),x_5∈x.2→x_5∈x_4.2.1)∧(∀ (x_5:Int),x_5∈x_4.2.1→Rch x.1 x.2 x_5)∧∀ (x_5:Int),x_5∈List.take x_4.2.2.toNat x_4.2.1→∀ (y:Int),y∈ay x.1 x_5→y∈x_4.2.1)→(decide (x_4.2.2<(↑x_4.2.1.length:Int))=true→0≤x_4.2.2∧x_4.2.2<(↑x_4.2.1.length:Int)∧x_4.2.2.toNat<x_4.2.1.length∧∀ (_:Array Value),aj .i64 (x_4.2.1.getD x_4.2.2.toNat 0+1)∧aj .i64 (x_4.2.1.getD x_4.2.2.toNat 0+1)∧aj .i64 (x_4.2.1.getD x_4.2.2.toNat 0+1+((ae x_1.2.1 (x_4.2.1.getD x_4.2.2.toNat 0)).getD (0,0,0,false)).1)∧0≤x_4.2.1.getD x_4.2.2.toNat 0+1∧x_4.2.1.getD x_4.2.2.toNat 0+1≤x_4.2.1.getD x_4.2.2.toNat 0+1+((ae x_1.2.1 (x_4.2.1.getD x_4.2.2.toNat 0)).getD (0,0,0,false)).1∧x_4.2.1.getD x_4.2.2.toNat 0+1+((ae x_1.2.1 (x_4.2.1.getD x_4.2.2.toNat 0)).getD (0,0,0,false)).1≤(↑x_1.1.1.length:Int)∧((0:Int)≤0∧0≤(↑(List.drop (x_4.2.1.getD x_4.2.2.toNat 0+1).toNat (List.take (x_4.2.1.getD x_4.2.2.toNat 0+1+((ae x_1.2.1 (x_4.2.1.getD x_4.2.2.toNat 0)).getD (0,0,0,false)).1).toNat x_1.1.1)).length:Int)∧Seen x_4.1 x_4.2.1∧(∃ (k:List Int),x_4.2.1=x_4.2.1++k∧∀ (x:Int),x∈k→x+1∈List.drop (x_4.2.1.getD x_4.2.2.toNat 0+1).toNat (List.take (x_4.2.1.getD x_4.2.2.toNat 0+1+((ae x_1.2.1 (x_4.2.1.getD x_4.2.2.toNat 0)).getD (0,0,0,false)).1).toNat x_1.1.1)∧x+1≠0)∧∀ (v:Int),v∈List.take (Int.toNat 0) (List.drop (x_4.2.1.getD x_4.2.2.toNat 0+1).toNat (List.take (x_4.2.1.getD x_4.2.2.toNat 0+1+((ae x_1.2.1 (x_4.2.1.getD x_4.2.2.toNat 0)).getD (0,0,0,false)).1).toNat x_1.1.1))→v≠0→v - 1∈x_4.2.1)∧∀ (x_5:List (Int×Bool)×List Int×Int),(0≤x_5.2.2∧x_5.2.2≤(↑(List.drop (x_4.2.1.getD x_4.2.2.toNat 0+1).toNat (List.take (x_4.2.1.getD x_4.2.2.toNat 0+1+((ae x_1.2.1 (x_4.2.1.getD x_4.2.2.toNat 0)).getD (0,0,0,false)).1).toNat x_1.1.1)).length:Int)∧Seen x_5.1 x_5.2.1∧(∃ (k:List Int),x_5.2.1=x_4.2.1++k∧∀ (x:Int),x∈k→x+1∈List.drop (x_4.2.1.getD x_4.2.2.toNat 0+1).toNat (List.take (x_4.2.1.getD x_4.2.2.toNat 0+1+((ae x_1.2.1 (x_4.2.1.getD x_4.2.2.toNat 0)).getD (0,0,0,false)).1).toNat x_1.1.1)∧x+1≠0)∧∀ (v:Int),v∈List.take x_5.2.2.toNat (List.drop (x_4.2.1.getD x_4.2.2.toNat 0+1).toNat (List.take (x_4.2.1.getD x_4.2.2.toNat 0+1+((ae x_1.2.1 (x_4.2.1.getD x_4.2.2.toNat 0)).getD (0,0,0,false)).1).toNat x_1.1.1))→v≠0→v - 1∈x_5.2.1)→(decide (x_5.2.2<(↑(List.drop (x_4.2.1.getD x_4.2.2.toNat 0+1).toNat (List.take (x_4.2.1.getD x_4.2.2.toNat 0+1+((ae x_1.2.1 (x_4.2.1.getD x_4.2.2.toNat 0)).getD (0,0,0,false)).1).toNat x_1.1.1)).length:Int))=true→0≤x_5.2.2∧x_5.2.2<(↑(List.drop (x_4.2.1.getD x_4.2.2.toNat 0+1).toNat (List.take (x_4.2.1.getD x_4.2.2.toNat 0+1+((ae x_1.2.1 (x_4.2.1.getD x_4.2.2.toNat 0)).getD (0,0,0,false)).1).toNat x_1.1.1)).length:Int)∧(decide ((List.drop (x_4.2.1.getD x_4.2.2.toNat 0+1).toNat (List.take (x_4.2.1.getD x_4.2.2.toNat 0+1+((ae x_1.2.1 (x_4.2.1.getD x_4.2.2.toNat 0)).getD (0,0,0,false)).1).toNat x_1.1.1)).getD x_5.2.2.toNat (0:Int)≠0)=true→aj .i64 (IntKind.i64.wrap ((List.drop (x_4.2.1.getD x_4.2.2.toNat 0+1).toNat (List.take (x_4.2.1.getD x_4.2.2.toNat 0+1+((ae x_1.2.1 (x_4.2.1.getD x_4.2.2.toNat 0)).getD (0,0,0,false)).1).toNat x_1.1.1)).getD x_5.2.2.toNat 0) - 1)∧∀ (_:Array Value),((!(ae x_5.1 (IntKind.i64.wrap ((List.drop (x_4.2.1.getD x_4.2.2.toNat 0+1).toNat (List.take (x_4.2.1.getD x_4.2.2.toNat 0+1+((ae x_1.2.1 (x_4.2.1.getD x_4.2.2.toNat 0)).getD (0,0,0,false)).1).toNat x_1.1.1)).getD x_5.2.2.toNat 0) - 1)).getD false)=true→(x_5.2.1.length+[IntKind.i64.wrap ((List.drop (x_4.2.1.getD x_4.2.2.toNat 0+1).toNat (List.take (x_4.2.1.getD x_4.2.2.toNat 0+1+((ae x_1.2.1 (x_4.2.1.getD x_4.2.2.toNat 0)).getD (0,0,0,false)).1).toNat x_1.1.1)).getD x_5.2.2.toNat 0) - 1].length) * 8≤aL∧aj .i64 (x_5.2.2+1)∧(0≤x_5.2.2+1∧x_5.2.2+1≤(↑(List.drop (x_4.2.1.getD x_4.2.2.toNat 0+1).toNat (List.take (x_4.2.1.getD x_4.2.2.toNat 0+1+((ae x_1.2.1 (x_4.2.1.getD x_4.2.2.toNat 0)).getD (0,0,0,false)).1).toNat x_1.1.1)).length:Int)∧Seen (aM x_5.1 (IntKind.i64.wrap ((List.drop (x_4.2.1.getD x_4.2.2.toNat 0+1).toNat (List.take (x_4.2.1.getD x_4.2.2.toNat 0+1+((ae x_1.2.1 (x_4.2.1.getD x_4.2.2.toNat 0)).getD (0,0,0,false)).1).toNat x_1.1.1)).getD x_5.2.2.toNat 0) - 1) true) (x_5.2.1++[IntKind.i64.wrap ((List.drop (x_4.2.1.getD x_4.2.2.toNat 0+1).toNat (List.take (x_4.2.1.getD x_4.2.2.toNat 0+1+((ae x_1.2.1 (x_4.2.1.getD x_4.2.2.toNat 0)).getD (0,0,0,false)).1).toNat x_1.1.1)).getD x_5.2.2.toNat 0) - 1])∧(∃ (k:List Int),x_5.2.1++[IntKind.i64.wrap ((List.drop (x_4.2.1.getD x_4.2.2.toNat 0+1).toNat (List.take (x_4.2.1.getD x_4.2.2.toNat 0+1+((ae x_1.2.1 (x_4.2.1.getD x_4.2.2.toNat 0)).getD (0,0,0,false)).1).toNat x_1.1.1)).getD x_5.2.2.toNat 0) - 1]=x_4.2.1++k∧∀ (x:Int),x∈k→x+1∈List.drop (x_4.2.1.getD x_4.2.2.toNat 0+1).toNat (List.take (x_4.2.1.getD x_4.2.2.toNat 0+1+((ae x_1.2.1 (x_4.2.1.getD x_4.2.2.toNat 0)).getD (0,0,0,false)).1).toNat x_1.1.1)∧x+1≠0)∧∀ (v:Int),v∈List.take (x_5.2.2+1).toNat (List.drop (x_4.2.1.getD x_4.2.2.toNat 0+1).toNat (List.take (x_4.2.1.getD x_4.2.2.toNat 0+1+((ae x_1.2.1 (x_4.2.1.getD x_4.2.2.toNat 0)).getD (0,0,0,false)).1).toNat x_1.1.1))→v≠0→v - 1∈x_5.2.1++[IntKind.i64.wrap ((List.drop (x_4.2.1.getD x_4.2.2.toNat 0+1).toNat (List.take (x_4.2.1.getD x_4.2.2.toNat 0+1+((ae x_1.2.1 (x_4.2.1.getD x_4.2.2.toNat 0)).getD (0,0,0,false)).1).toNat x_1.1.1)).getD x_5.2.2.toNat 0) - 1])∧((↑(List.drop (x_4.2.1.getD x_4.2.2.toNat 0+1).toNat (List.take (x_4.2.1.getD x_4.2.2.toNat 0+1+((ae x_1.2.1 (x_4.2.1.getD x_4.2.2.toNat 0)).getD (0,0,0,false)).1).toNat x_1.1.1)).length:Int) - (x_5.2.2+1)).toNat<((↑(List.drop (x_4.2.1.getD x_4.2.2.toNat 0+1).toNat (List.take (x_4.2.1.getD x_4.2.2.toNat 0+1+((ae x_1.2.1 (x_4.2.1.getD x_4.2.2.toNat 0)).getD (0,0,0,false)).1).toNat x_1.1.1)).length:Int) - x_5.2.2).toNat)∧((!(ae x_5.1 (IntKind.i64.wrap ((List.drop (x_4.2.1.getD x_4.2.2.toNat 0+1).toNat (List.take (x_4.2.1.getD x_4.2.2.toNat 0+1+((ae x_1.2.1 (x_4.2.1.getD x_4.2.2.toNat 0)).getD (0,0,0,false)).1).toNat x_1.1.1)).getD x_5.2.2.toNat 0) - 1)).getD false)=false→aj .i64 (x_5.2.2+1)∧(0≤x_5.2.2+1∧x_5.2.2+1≤(↑(List.drop (x_4.2.1.getD x_4.2.2.toNat 0+1).toNat (List.take (x_4.2.1.getD x_4.2.2.toNat 0+1+((ae x_1.2.1 (x_4.2.1.getD x_4.2.2.toNat 0)).getD (0,0,0,false)).1).toNat x_1.1.1)).length:Int)∧Seen x_5.1 x_5.2.1∧(∃ (k:List Int),x_5.2.1=x_4.2.1++k∧∀ (x:Int),x∈k→x+1∈List.drop (x_4.2.1.getD x_4.2.2.toNat 0+1).toNat (List.take (x_4.2.1.getD x_4.2.2.toNat 0+1+((ae x_1.2.1 (x_4.2.1.getD x_4.2.2.toNat 0)).getD (0,0,0,false)).1).toNat x_1.1.1)∧x+1≠0)∧∀ (v:Int),v∈List.take (x_5.2.2+1).toNat (List.drop (x_4.2.1.getD x_4.2.2.toNat 0+1).toNat (List.take (x_4.2.1.getD x_4.2.2.toNat 0+1+((ae x_1.2.1 (x_4.2.1.getD x_4.2.2.toNat 0)).getD (0,0,0,false)).1).toNat x_1.1.1))→v≠0→v - 1∈x_5.2.1)∧((↑(List.drop (x_4.2.1.getD x_4.2.2.toNat 0+1).toNat (List.take (x_4.2.1.getD x_4.2.2.toNat 0+1+((ae x_1.2.1 (x_4.2.1.getD x_4.2.2.toNat 0)).getD (0,0,0,false)).1).toNat x_1.1.1)).length:Int) - (x_5.2.2+1)).toNat<((↑(List.drop (x_4.2.1.getD x_4.2.2.toNat 0+1).toNat (List.take (x_4.2.1.getD x_4.2.2.toNat 0+1+((ae x_1.2.1 (x_4.2.1.getD x_4.2.2.toNat 0)).getD (0,0,0,false)).1).toNat x_1.1.1)).length:Int) - x_5.2.2).toNat))∧(decide ((List.drop (x_4.2.1.getD x_4.2.2.toNat 0+1).toNat (List.take (x_4.2.1.getD x_4.2.2.toNat 0+1+((ae x_1.2.1 (x_4.2.1.getD x_4.2.2.toNat 0)).getD (0,0,0,false)).1).toNat x_1.1.1)).getD x_5.2.2.toNat (0:Int)≠0)=false→aj .i64 (x_5.2.2+1)∧(0≤x_5.2.2+1∧x_5.2.2+1≤(↑(List.drop (x_4.2.1.getD x_4.2.2.toNat 0+1).toNat (List.take (x_4.2.1.getD x_4.2.2.toNat 0+1+((ae x_1.2.1 (x_4.2.1.getD x_4.2.2.toNat 0)).getD (0,0,0,false)).1).toNat x_1.1.1)).length:Int)∧Seen x_5.1 x_5.2.1∧(∃ (k:List Int),x_5.2.1=x_4.2.1++k∧∀ (x:Int),x∈k→x+1∈List.drop (x_4.2.1.getD x_4.2.2.toNat 0+1).toNat (List.take (x_4.2.1.getD x_4.2.2.toNat 0+1+((ae x_1.2.1 (x_4.2.1.getD x_4.2.2.toNat 0)).getD (0,0,0,false)).1).toNat x_1.1.1)∧x+1≠0)∧∀ (v:Int),v∈List.take (x_5.2.2+1).toNat (List.drop (x_4.2.1.getD x_4.2.2.toNat 0+1).toNat (List.take (x_4.2.1.getD x_4.2.2.toNat 0+1+((ae x_1.2.1 (x_4.2.1.getD x_4.2.2.toNat 0)).getD (0,0,0,false)).1).toNat x_1.1.1))→v≠0→v - 1∈x_5.2.1)∧((↑(List.drop (x_4.2.1.getD x_4.2.2.toNat 0+1).toNat (List.take (x_4.2.1.getD x_4.2.2.toNat 0+1+((ae x_1.2.1 (x_4.2.1.getD x_4.2.2.toNat 0)).getD (0,0,0,false)).1).toNat x_1.1.1)).length:Int) - (x_5.2.2+1)).toNat<((↑(List.drop (x_4.2.1.getD x_4.2.2.toNat 0+1).toNat (List.take (x_4.2.1.getD x_4.2.2.toNat 0+1+((ae x_1.2.1 (x_4.2.1.getD x_4.2.2.toNat 0)).getD (0,0,0,false)).1).toNat x_1.1.1)).length:Int) - x_5.2.2).toNat))∧(decide (x_5.2.2<(↑(List.drop (x_4.2.1.getD x_4.2.2.toNat 0+1).toNat (List.take (x_4.2.1.getD x_4.2.2.toNat 0+1+((ae x_1.2.1 (x_4.2.1.getD x_4.2.2.toNat 0)).getD (0,0,0,false)).1).toNat x_1.1.1)).length:Int))=false→aj .i64 (x_4.2.2+1)∧(0≤x_4.2.2+1∧x_4.2.2+1≤(↑x_5.2.1.length:Int)∧Seen x_5.1 x_5.2.1∧(∀ (x_6:Int),x_6∈x.2→x_6∈x_5.2.1)∧(∀ (x_6:Int),x_6∈x_5.2.1→Rch x.1 x.2 x_6)∧∀ (x_6:Int),x_6∈List.take (x_4.2.2+1).toNat x_5.2.1→∀ (y:Int),y∈ay x.1 x_6→y∈x_5.2.1)∧(256 - (x_4.2.2+1)).toNat<(256 - x_4.2.2).toNat))∧(decide (x_4.2.2<(↑x_4.2.1.length:Int))=false→True∧db x_4.2.1=(bn x.1 x.2).1∧0=(bn x.1 x.2).2∧True))))))
theorem sI:qa:=by
 unfold qa
 intro ⟨a,f⟩ ⟨⟨hb,hw⟩,hbf,hf⟩ _ tm
 unfold aL at hb hbf
 simp only at hb hw hbf hf ⊢
 refine ⟨trivial,fun hc=>⟨fun _=>?_,fun hn=>by rw [hc] at hn; cases hn⟩,fun hc=>?_⟩
 ·have hc:=of_decide_eq_true hc
  have e:an a f=(ao a).2.2:=by unfold an; rw [if_pos hc]
  have e2:bn a f=([],(ao a).2.2):=by unfold bn; rw [e,if_pos hc]
  rw [e2]
  exact ⟨rfl,rfl,trivial⟩
 have hc:(ao a).2.2=0:=by simpa using of_decide_eq_false hc
 obtain ⟨hal,_,_,hz,_,_,_⟩:=dY hc
 have hsl:=aR a
 have hsp:=eM a
 have hget:=fun x=>tk (da a) x
 have hbl:=aG (aa a).1
 refine ⟨trivial,⟨by omega,by omega,trivial,rfl,rfl⟩,fun ⟨⟨a1,⟨⟩,out⟩,m,i⟩ ⟨i0,i1,i2,i3,i4⟩=>⟨fun hlt=>?_,fun hge=>?_⟩⟩
 ·simp only at i0 i1 i2 i3 i4 hlt ⊢
  have hlt:=of_decide_eq_true hlt
  have hs:=hsp _ (bk ((0,0,0,0,false):aH) i0 hlt)
  have ht:=aI ((0,0,0,0,false):aH) i0 hlt
  rw [aV ((0,0,0,0,false):aH) i0 hlt] at i4
  simp only [cr] at i4
  have hol:out.length≤256:=by
   rw [i3]
   have:=aG (List.take i.toNat (aa a).1)
   rw [List.length_take] at this
   omega
  rw [ht,dj,← i3]
  generalize (aa a).1.getD i.toNat (0,0,0,0,false)=s at *
  simp only [aj]
  refine ⟨i0,hlt,by omega,fun hf0=>?_,fun hf0=>?_⟩
  ·have hf0:¬ s.2.2.2.2=true:=by simpa using hf0
   have e:ab [s]=[s.1]:=by simp only [ab]; rw [if_neg hf0]
   rw [if_neg hf0] at i4
   rw [e]
   unfold aL
   simp only [List.length_singleton]
   exact ⟨by omega,by omega,⟨by omega,by omega,i2,trivial,i4⟩,by omega⟩
  ·have hf0:s.2.2.2.2=true:=by simpa using hf0
   have e:ab [s]=[]:=by simp only [ab]; rw [if_pos hf0]
   rw [if_pos hf0] at i4
   rw [e,List.append_nil]
   exact ⟨by omega,⟨by omega,by omega,i2,rfl,i4⟩,by omega⟩
 simp only at i0 i1 i2 i3 i4 hge ⊢
 have hge:=of_decide_eq_false hge
 rw [br hge] at i4
 have i4:m=fR (aa a).1:=i4
 subst i4 i2
 have hsome:∀ x,(ae (fR (aa a1).1) x).isSome=isB (aa a1).1 x:=fun x=>by rw [hget]; cases isB (aa a1).1 x <;> rfl
 simp only [hsome]
 refine ⟨⟨by omega,by omega,rfl⟩,fun j ⟨j0,j1,j2⟩=>⟨fun hlt=>?_,fun hge=>⟨fun h=>by simp at h,fun _=>?_⟩⟩⟩
 ·have hlt:=of_decide_eq_true hlt
  rw [aV (0:Int) j0 hlt,List.all_cons] at j2
  simp only [aj]
  refine ⟨j0,hlt,fun hn=>⟨fun _=>?_,fun h=>by simp at h⟩,fun hn=>⟨by omega,⟨by omega,by omega,?_⟩,by omega⟩⟩
  ·have hn:isB (aa a1).1 (f.getD j.toNat 0)=false:=by simpa using hn
   rw [hn,Bool.false_and] at j2
   have e:an a1 f=5:=by unfold an; rw [if_neg (by omega),← j2]; rfl
   have e2:bn a1 f=([],5):=by unfold bn; rw [e]; rfl
   rw [e2]
   exact ⟨rfl,rfl,trivial⟩
  ·have hn:isB (aa a1).1 (f.getD j.toNat 0)=true:=by simpa using hn
   rw [hn,Bool.true_and] at j2
   exact j2
 rw [br (of_decide_eq_false hge),List.all_nil] at j2
 have hfb:∀ x∈f,isB (aa a1).1 x=true:=List.all_eq_true.1 j2.symm
 have e0:an a1 f=0:=ev hc hfb
 have e1:bn a1 f=(cp a1 f,0):=by unfold bn; rw [e0]; rfl
 rw [e1]
 clear i0 i1 i3 hge j0 j1 j2
 have hrch:∀ x,Rch a1 f x→0≤x∧x≤255:=fun x hx=>cq (hx.isB hw hc hfb)
 refine ⟨⟨by omega,by omega,Seen.new,fun x hx=>by simp at hx,fun x hx=>by cases hx⟩,fun ⟨m,o,i⟩ ⟨i0,i1,i2,i3,i4⟩=>⟨fun hlt=>?_,fun hge=>?_⟩⟩
 ·simp only at i0 i1 i2 i3 i4 hlt ⊢
  have hlt:=of_decide_eq_true hlt
  have ht:=aI (0:Int) i0 hlt
  have hm:=bk (0:Int) i0 hlt
  generalize f.getD i.toNat 0=x at *
  have hol:=fy i2.nodup (fun y hy=>hrch y (.base (i4 y hy)))
  rw [ht]
  unfold aL
  simp only [aj,List.length_singleton]
  refine ⟨i0,hlt,fun _=>⟨fun hn=>⟨by omega,by omega,⟨by omega,by omega,i2.add hn,fun y hy=>?_,fun y hy=>?_⟩,by omega⟩,fun hn=>⟨by omega,⟨by omega,by omega,i2,fun y hy=>?_,i4⟩,by omega⟩⟩⟩
  ·rcases List.mem_append.1 hy with hy | hy
   ·exact List.mem_append_left _ (i3 y hy)
   ·exact List.mem_append_right _ hy
  ·rcases List.mem_append.1 hy with hy | hy
   ·exact i4 y hy
   ·rw [List.mem_singleton.1 hy]; exact hm
  ·rcases List.mem_append.1 hy with hy | hy
   ·exact i3 y hy
   ·rw [List.mem_singleton.1 hy]; exact i2.mem hn
 simp only at i0 i1 i2 i3 i4 hge ⊢
 rw [aX (of_decide_eq_false hge)] at i3
 refine ⟨⟨by omega,by omega,i2,i3,fun x hx=>.base (i4 x hx),fun x hx=>by simp at hx⟩,fun ⟨m2,o2,k⟩ ⟨k0,k1,k2,k3,k4,k5⟩=>⟨fun hlt=>?_,fun hge=>?_⟩⟩
 ·clear i0 i1 i2 i3 i4 hge
  simp only at k0 k1 k2 k3 k4 k5 hlt ⊢
  have hlt:=of_decide_eq_true hlt
  have ht:=aI (0:Int) k0 hlt
  have hm:=bk (0:Int) k0 hlt
  have hol:=fy k2.nodup (fun y hy=>hrch y (k4 y hy))
  generalize hat:o2.getD k.toNat 0=at_ at *
  have hib:=(k4 at_ hm).isB hw hc hfb
  have hh:((ae (fR (aa a1).1) at_).getD (0,0,0,false))=mG a1 at_:=by rw [hget,if_pos hib]; rfl
  obtain ⟨l1,_,l3,l4,l5,l6⟩:=ef hib
  have hrf:=dr hw hc _ (er hib).1
  have hrs:List.drop (at_+1).toNat (List.take (at_+1+(mG a1 at_).1).toNat a1)=ch a1 at_:=rfl
  have hout:∀ y,y∈ay a1 at_ ↔ (y+1∈ch a1 at_∧y+1≠0):=by
   intro y
   unfold ay
   simp only [List.mem_map,List.mem_filter,decide_eq_true_eq]
   constructor
   ·rintro ⟨v,⟨hv,h0⟩,rfl⟩
    rw [Int.sub_add_cancel]
    exact ⟨hv,h0⟩
   ·rintro ⟨h1,h2⟩
    exact ⟨y+1,⟨h1,h2⟩,by omega⟩
  have hstep:∀ y,y+1∈ch a1 at_→y+1≠0→Rch a1 f y:=fun y h1 h2=>.step (k4 at_ hm) ((hout y).2 ⟨h1,h2⟩)
  rw [hh,hrs]
  have hwr:∀ v∈ch a1 at_,IntKind.i64.wrap v=v∧0≤v∧v≤256:=fun v hv=>by
   rcases hrf v hv with e | ⟨h1,h2,_⟩
   ·subst e; exact ⟨eo (by omega) (by omega),by omega,by omega⟩
   ·exact ⟨eo (by omega) (by omega),by omega,by omega⟩
  generalize hrs0:ch a1 at_=rs at *
  simp only [aj]
  refine ⟨k0,hlt,by omega,fun _=>⟨by omega,by omega,by omega,by omega,by omega,by omega,⟨by omega,by omega,k2,⟨[],by simp,fun x hx=>by cases hx⟩,fun v hv=>by simp at hv⟩,fun ⟨m3,o3,j⟩ ⟨j0,j1,j2,⟨kk,j3,j4⟩,j5⟩=>⟨fun hj=>?_,fun hj=>?_⟩⟩⟩
  ·simp only at j0 j1 j2 j3 j4 j5 hj ⊢
   have hj:=of_decide_eq_true hj
   have ht2:=aI (0:Int) j0 hj
   have hv:=bk (0:Int) j0 hj
   generalize rs.getD j.toNat 0=v at *
   obtain ⟨w1,w2,w3⟩:=hwr v hv
   have hol3:=fy j2.nodup (fun y hy=>hrch y (by
    rw [j3] at hy
    rcases List.mem_append.1 hy with hy | hy
    ·exact k4 y hy
    ·exact hstep y (j4 y hy).1 (j4 y hy).2))
   rw [w1,ht2]
   unfold aL
   simp only [List.length_singleton]
   refine ⟨j0,hj,fun hne=>⟨by omega,fun _=>⟨fun hn=>⟨by omega,by omega,⟨by omega,by omega,j2.add hn,⟨kk++[v - 1],by rw [j3,List.append_assoc],fun y hy=>?_⟩,fun y hy hy0=>?_⟩,by omega⟩,fun hn=>⟨by omega,⟨by omega,by omega,j2,⟨kk,j3,j4⟩,fun y hy hy0=>?_⟩,by omega⟩⟩⟩,fun hne=>⟨by omega,⟨by omega,by omega,j2,⟨kk,j3,j4⟩,fun y hy hy0=>?_⟩,by omega⟩⟩
   ·rcases List.mem_append.1 hy with hy | hy
    ·exact j4 y hy
    ·rw [List.mem_singleton.1 hy,Int.sub_add_cancel]
     exact ⟨hv,of_decide_eq_true hne⟩
   ·rcases List.mem_append.1 hy with hy | hy
    ·exact List.mem_append_left _ (j5 y hy hy0)
    ·rw [List.mem_singleton.1 hy]; simp
   ·rcases List.mem_append.1 hy with hy | hy
    ·exact j5 y hy hy0
    ·rw [List.mem_singleton.1 hy]; exact j2.mem hn
   ·rcases List.mem_append.1 hy with hy | hy
    ·exact j5 y hy hy0
    ·rw [List.mem_singleton.1 hy] at hy0
     exact absurd hy0 (by simpa using of_decide_eq_false hne)
  ·simp only at j0 j1 j2 j3 j4 j5 hj ⊢
   rw [aX (of_decide_eq_false hj)] at j5
   have hlen3:o2.length≤o3.length:=by rw [j3]; simp
   have e3:o3.take (k+1).toNat=o2.take k.toNat++[at_]:=by rw [j3,List.take_append_of_le_length (by omega),ht]
   rw [e3]
   refine ⟨by omega,⟨by omega,by omega,j2,fun x hx=>by rw [j3]; exact List.mem_append_left _ (k3 x hx),fun x hx=>?_,fun x hx y hy=>?_⟩,by omega⟩
   ·rw [j3] at hx
    rcases List.mem_append.1 hx with hx | hx
    ·exact k4 x hx
    ·exact hstep x (j4 x hx).1 (j4 x hx).2
   ·rcases List.mem_append.1 hx with hx | hx
    ·rw [j3]; exact List.mem_append_left _ (k5 x hx y hy)
    ·rw [List.mem_singleton.1 hx] at hy
     obtain ⟨q1,q2⟩:=(hout y).1 hy
     have:=j5 _ q1 q2
     rwa [Int.add_sub_cancel] at this
 ·simp only at k0 k1 k2 k3 k4 k5 hge ⊢
  rw [aX (of_decide_eq_false hge)] at k5
  exact ⟨trivial,(Full.mk k3 k4 k5).sorted hw hc hfb k2.nodup,trivial,trivial⟩
theorem ue:tQ.ok Try.prog 38:=bJ (ann:=uS) (ai eq (ai dI (r9 qi aJ))) Try.func38 (by kernel_rfl) sI
end Go.Proofs.Ytcnoiiohmpgckaa
