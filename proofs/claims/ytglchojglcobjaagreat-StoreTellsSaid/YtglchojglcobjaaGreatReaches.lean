
import Derived.Test.YtglchojglcobjaaGreatReach
namespace Go.Proofs.YtglchojglcobjaaGreat
open Go
set_option maxRecDepth 100000
set_option maxHeartbeats 1000000
theorem inF {l:List Int} {x:Int} (h:(!inL l x)=true):¬ x∈l:=fun hx=>by rw [inL_iff.2 hx] at h; cases h
theorem inT {l:List Int} {x:Int} (h:(!inL l x)=false):x∈l:=inL_iff.1 (by cases hx:inL l x <;> simp_all)
theorem named_outs {a:List Int} (hw:∀ x∈a,InR .u64 x) (hc:(checkF a).2.2=0) {x:Int} (hx:isB (spotsF a).1 x=true) {y:Int}:(y∈namedL a x (headAtL x (spotsF a).1).1∧0≤y) ↔ y∈outsA a x:=by
 have e:namedL a x (headAtL x (spotsF a).1).1=(refsA a x).map nameOf:=rfl
 rw [e]
 unfold outsA
 have hr:=refs_named hw hc _ (objA_in hx).1
 simp only [List.mem_map,List.mem_filter,decide_eq_true_eq]
 constructor
 ·rintro ⟨⟨v,hv,rfl⟩,h0⟩
  rcases hr v hv with rfl | ⟨h1,h2,_⟩
  ·simp [nameOf] at h0
  ·exact ⟨v,⟨hv,by omega⟩,by unfold nameOf; rw [if_neg (by omega)]⟩
 ·rintro ⟨v,⟨hv,h0⟩,rfl⟩
  rcases hr v hv with e | ⟨h1,h2,_⟩
  ·exact absurd e h0
  ·exact ⟨⟨v,hv,by unfold nameOf; rw [if_neg (by omega)]⟩,by omega⟩
structure InReach (a f l:List Int):Prop where
 has:∀ x∈f,x∈l
 only:∀ x∈l,Rch a f x
 len:l.length+cntR f≤f.length+cntR l
def an_rReached:Nat→Option LoopGen
 | 4=>some { rd:=[.dat 0 (.arr ty_W),.dat 1 (.arr ty_I)],A:=fun ((a,f):List Int×List Int)=>{ cs:=[.own 6 3 ty_I,.dat 7 .bool],inv:=fun ((l,ag):List Int×Bool)=>InReach a f l∧(ag=false→closedR a l=true),mu:=fun ((l,ag):List Int×Bool)=>2 * (256 - cntR l)+(if ag=true then 1 else 0) } }
 | 7=>some { rd:=[.own 5 3 ty_I,.dat 0 (.arr ty_W),.dat 1 (.arr ty_I),.own 6 3 ty_I],A:=fun ((all,a,f,l0):List Int×List Int×List Int×List Int)=>{ cs:=[.own 6 3 ty_I,.dat 7 .bool,.dat 19 ty_I],inv:=fun ((l,ag,i):List Int×Bool×Int)=>0≤i∧i≤all.length∧InReach a f l∧(ag=false→l=l0∧∀ x∈all.take i.toNat,x∈l0→∀ y∈outsA a x,y∈l0)∧(ag=true→cntR l0<cntR l),mu:=fun ((_,_,i):List Int×Bool×Int)=>(all.length - i).toNat } }
 | 11=>some { rd:=[.own 29 3 ty_I,.own 6 3 ty_I,.dat 7 .bool],A:=fun ((ns,l1,ag1):List Int×List Int×Bool)=>{ cs:=[.own 6 3 ty_I,.dat 7 .bool,.dat 31 ty_I],inv:=fun ((l,ag,j):List Int×Bool×Int)=>0≤j∧j≤ns.length∧(∀ x∈l1,x∈l)∧(∀ x∈l,x∈l1∨(x∈ns∧0≤x))∧l.length+cntR l1≤l1.length+cntR l∧(ag=false→ag1=false∧l=l1∧∀ y∈ns.take j.toNat,0≤y→y∈l1)∧(ag=true→ag1=true∨cntR l1<cntR l)∧(ag1=true→ag=true),mu:=fun ((_,_,j):List Int×Bool×Int)=>(ns.length - j).toNat } }
 | _=>none
def sp_rReached:Spec:={ Ts:=[.arr ty_W,.arr ty_I],Rs:=[.own 3 ty_I],pre:=fun ((a,f):List Int×List Int)=>fromFault a f=0∧(f.length+256) * 8≤140737488355328,F:=fun ((a,f):List Int×List Int)=>reachL a f }
def pv_rReached:Prop :=
  ∀ (x:List Int×List Int),((x.1.length * (8:Nat)≤big∧∀ (x_1:Int),x_1∈x.1→InR IntKind.u64 x_1)∧x.2.length * (8:Nat)≤big∧∀ (x_1:Int),x_1∈x.2→InR IntKind.i64 x_1)→fromFault x.1 x.2=(0:Int)∧(x.2.length+(256:Nat)) * (8:Nat)≤(140737488355328:Nat)→True∧x.2.length * (8:Nat)≤big∧(InReach x.1 x.2 x.2∧(true=false→closedR x.1 x.2=true))∧∀ (x_1:List Int×Bool),InReach x.1 x.2 x_1.1∧(x_1.2=false→closedR x.1 x_1.1=true)→(x_1.2=true→((0:Int)≤(0:Int)∧(0:Int)≤(↑(beginsL (spotsF x.1).1).length:Int)∧InReach x.1 x.2 x_1.1∧(false=false→x_1.1=x_1.1∧∀ (x_2:Int),x_2∈List.take (Int.toNat (0:Int)) (beginsL (spotsF x.1).1)→x_2∈x_1.1→∀ (y:Int),y∈outsA x.1 x_2→y∈x_1.1)∧(false=true→cntR x_1.1<cntR x_1.1))∧∀ (x_2:List Int×Bool×Int),(0:Int)≤x_2.2.2∧x_2.2.2≤(↑(beginsL (spotsF x.1).1).length:Int)∧InReach x.1 x.2 x_2.1∧(x_2.2.1=false→x_2.1=x_1.1∧∀ (x_3:Int),x_3∈List.take x_2.2.2.toNat (beginsL (spotsF x.1).1)→x_3∈x_1.1→∀ (y:Int),y∈outsA x.1 x_3→y∈x_1.1)∧(x_2.2.1=true→cntR x_1.1<cntR x_2.1)→(decide (x_2.2.2<(↑(beginsL (spotsF x.1).1).length:Int))=true→(0:Int)≤x_2.2.2∧x_2.2.2<(↑(beginsL (spotsF x.1).1).length:Int)∧x_2.2.2.toNat<(beginsL (spotsF x.1).1).length∧True∧((!inL x_2.1 ((beginsL (spotsF x.1).1).getD x_2.2.2.toNat (0:Int)))=true→InR IntKind.i64 (x_2.2.2+(1:Int))∧((0:Int)≤x_2.2.2+(1:Int)∧x_2.2.2+(1:Int)≤(↑(beginsL (spotsF x.1).1).length:Int)∧InReach x.1 x.2 x_2.1∧(x_2.2.1=false→x_2.1=x_1.1∧∀ (x_3:Int),x_3∈List.take (x_2.2.2+(1:Int)).toNat (beginsL (spotsF x.1).1)→x_3∈x_1.1→∀ (y:Int),y∈outsA x.1 x_3→y∈x_1.1)∧(x_2.2.1=true→cntR x_1.1<cntR x_2.1))∧((↑(beginsL (spotsF x.1).1).length:Int) - (x_2.2.2+(1:Int))).toNat<((↑(beginsL (spotsF x.1).1).length:Int) - x_2.2.2).toNat)∧((!inL x_2.1 ((beginsL (spotsF x.1).1).getD x_2.2.2.toNat (0:Int)))=false→True∧((0:Int)≤(0:Int)∧(0:Int)≤(↑(namedL x.1 ((beginsL (spotsF x.1).1).getD x_2.2.2.toNat (0:Int)) (headAtL ((beginsL (spotsF x.1).1).getD x_2.2.2.toNat (0:Int)) (spotsF x.1).1).1).length:Int)∧(∀ (x:Int),x∈x_2.1→x∈x_2.1)∧(∀ (x_3:Int),x_3∈x_2.1→x_3∈x_2.1∨x_3∈namedL x.1 ((beginsL (spotsF x.1).1).getD x_2.2.2.toNat (0:Int)) (headAtL ((beginsL (spotsF x.1).1).getD x_2.2.2.toNat (0:Int)) (spotsF x.1).1).1∧(0:Int)≤x_3)∧x_2.1.length+cntR x_2.1≤x_2.1.length+cntR x_2.1∧(x_2.2.1=false→x_2.2.1=false∧x_2.1=x_2.1∧∀ (y:Int),y∈List.take (Int.toNat (0:Int)) (namedL x.1 ((beginsL (spotsF x.1).1).getD x_2.2.2.toNat (0:Int)) (headAtL ((beginsL (spotsF x.1).1).getD x_2.2.2.toNat (0:Int)) (spotsF x.1).1).1)→(0:Int)≤y→y∈x_2.1)∧(x_2.2.1=true→x_2.2.1=true∨cntR x_2.1<cntR x_2.1)∧(x_2.2.1=true→x_2.2.1=true))∧∀ (x_3:List Int×Bool×Int),(0:Int)≤x_3.2.2∧x_3.2.2≤(↑(namedL x.1 ((beginsL (spotsF x.1).1).getD x_2.2.2.toNat (0:Int)) (headAtL ((beginsL (spotsF x.1).1).getD x_2.2.2.toNat (0:Int)) (spotsF x.1).1).1).length:Int)∧(∀ (x:Int),x∈x_2.1→x∈x_3.1)∧(∀ (x_4:Int),x_4∈x_3.1→x_4∈x_2.1∨x_4∈namedL x.1 ((beginsL (spotsF x.1).1).getD x_2.2.2.toNat (0:Int)) (headAtL ((beginsL (spotsF x.1).1).getD x_2.2.2.toNat (0:Int)) (spotsF x.1).1).1∧(0:Int)≤x_4)∧x_3.1.length+cntR x_2.1≤x_2.1.length+cntR x_3.1∧(x_3.2.1=false→x_2.2.1=false∧x_3.1=x_2.1∧∀ (y:Int),y∈List.take x_3.2.2.toNat (namedL x.1 ((beginsL (spotsF x.1).1).getD x_2.2.2.toNat (0:Int)) (headAtL ((beginsL (spotsF x.1).1).getD x_2.2.2.toNat (0:Int)) (spotsF x.1).1).1)→(0:Int)≤y→y∈x_2.1)∧(x_3.2.1=true→x_2.2.1=true∨cntR x_2.1<cntR x_3.1)∧(x_2.2.1=true→x_3.2.1=true)→(decide (x_3.2.2<(↑(namedL x.1 ((beginsL (spotsF x.1).1).getD x_2.2.2.toNat (0:Int)) (headAtL ((beginsL (spotsF x.1).1).getD x_2.2.2.toNat (0:Int)) (spotsF x.1).1).1).length:Int))=true→(0:Int)≤x_3.2.2∧x_3.2.2<(↑(namedL x.1 ((beginsL (spotsF x.1).1).getD x_2.2.2.toNat (0:Int)) (headAtL ((beginsL (spotsF x.1).1).getD x_2.2.2.toNat (0:Int)) (spotsF x.1).1).1).length:Int)∧x_3.2.2.toNat<(namedL x.1 ((beginsL (spotsF x.1).1).getD x_2.2.2.toNat (0:Int)) (headAtL ((beginsL (spotsF x.1).1).getD x_2.2.2.toNat (0:Int)) (spotsF x.1).1).1).length∧(decide ((0:Int)≤(namedL x.1 ((beginsL (spotsF x.1).1).getD x_2.2.2.toNat (0:Int)) (headAtL ((beginsL (spotsF x.1).1).getD x_2.2.2.toNat (0:Int)) (spotsF x.1).1).1).getD x_3.2.2.toNat (0:Int))=true→True)∧((decide ((0:Int)≤(namedL x.1 ((beginsL (spotsF x.1).1).getD x_2.2.2.toNat (0:Int)) (headAtL ((beginsL (spotsF x.1).1).getD x_2.2.2.toNat (0:Int)) (spotsF x.1).1).1).getD x_3.2.2.toNat (0:Int))&&!inL x_3.1 ((namedL x.1 ((beginsL (spotsF x.1).1).getD x_2.2.2.toNat (0:Int)) (headAtL ((beginsL (spotsF x.1).1).getD x_2.2.2.toNat (0:Int)) (spotsF x.1).1).1).getD x_3.2.2.toNat (0:Int)))=true→(x_3.1.length+[(namedL x.1 ((beginsL (spotsF x.1).1).getD x_2.2.2.toNat (0:Int)) (headAtL ((beginsL (spotsF x.1).1).getD x_2.2.2.toNat (0:Int)) (spotsF x.1).1).1).getD x_3.2.2.toNat (0:Int)].length) * (8:Nat)≤big∧InR IntKind.i64 (x_3.2.2+(1:Int))∧((0:Int)≤x_3.2.2+(1:Int)∧x_3.2.2+(1:Int)≤(↑(namedL x.1 ((beginsL (spotsF x.1).1).getD x_2.2.2.toNat (0:Int)) (headAtL ((beginsL (spotsF x.1).1).getD x_2.2.2.toNat (0:Int)) (spotsF x.1).1).1).length:Int)∧(∀ (x_4:Int),x_4∈x_2.1→x_4∈x_3.1++[(namedL x.1 ((beginsL (spotsF x.1).1).getD x_2.2.2.toNat (0:Int)) (headAtL ((beginsL (spotsF x.1).1).getD x_2.2.2.toNat (0:Int)) (spotsF x.1).1).1).getD x_3.2.2.toNat (0:Int)])∧(∀ (x_4:Int),x_4∈x_3.1++[(namedL x.1 ((beginsL (spotsF x.1).1).getD x_2.2.2.toNat (0:Int)) (headAtL ((beginsL (spotsF x.1).1).getD x_2.2.2.toNat (0:Int)) (spotsF x.1).1).1).getD x_3.2.2.toNat (0:Int)]→x_4∈x_2.1∨x_4∈namedL x.1 ((beginsL (spotsF x.1).1).getD x_2.2.2.toNat (0:Int)) (headAtL ((beginsL (spotsF x.1).1).getD x_2.2.2.toNat (0:Int)) (spotsF x.1).1).1∧(0:Int)≤x_4)∧(x_3.1++[(namedL x.1 ((beginsL (spotsF x.1).1).getD x_2.2.2.toNat (0:Int)) (headAtL ((beginsL (spotsF x.1).1).getD x_2.2.2.toNat (0:Int)) (spotsF x.1).1).1).getD x_3.2.2.toNat (0:Int)]).length+cntR x_2.1≤x_2.1.length+cntR (x_3.1++[(namedL x.1 ((beginsL (spotsF x.1).1).getD x_2.2.2.toNat (0:Int)) (headAtL ((beginsL (spotsF x.1).1).getD x_2.2.2.toNat (0:Int)) (spotsF x.1).1).1).getD x_3.2.2.toNat (0:Int)])∧(true=false→x_2.2.1=false∧x_3.1++[(namedL x.1 ((beginsL (spotsF x.1).1).getD x_2.2.2.toNat (0:Int)) (headAtL ((beginsL (spotsF x.1).1).getD x_2.2.2.toNat (0:Int)) (spotsF x.1).1).1).getD x_3.2.2.toNat (0:Int)]=x_2.1∧∀ (y:Int),y∈List.take (x_3.2.2+(1:Int)).toNat (namedL x.1 ((beginsL (spotsF x.1).1).getD x_2.2.2.toNat (0:Int)) (headAtL ((beginsL (spotsF x.1).1).getD x_2.2.2.toNat (0:Int)) (spotsF x.1).1).1)→(0:Int)≤y→y∈x_2.1)∧(true=true→x_2.2.1=true∨cntR x_2.1<cntR (x_3.1++[(namedL x.1 ((beginsL (spotsF x.1).1).getD x_2.2.2.toNat (0:Int)) (headAtL ((beginsL (spotsF x.1).1).getD x_2.2.2.toNat (0:Int)) (spotsF x.1).1).1).getD x_3.2.2.toNat (0:Int)]))∧(x_2.2.1=true→true=true))∧((↑(namedL x.1 ((beginsL (spotsF x.1).1).getD x_2.2.2.toNat (0:Int)) (headAtL ((beginsL (spotsF x.1).1).getD x_2.2.2.toNat (0:Int)) (spotsF x.1).1).1).length:Int) - (x_3.2.2+(1:Int))).toNat<((↑(namedL x.1 ((beginsL (spotsF x.1).1).getD x_2.2.2.toNat (0:Int)) (headAtL ((beginsL (spotsF x.1).1).getD x_2.2.2.toNat (0:Int)) (spotsF x.1).1).1).length:Int) - x_3.2.2).toNat)∧((decide ((0:Int)≤(namedL x.1 ((beginsL (spotsF x.1).1).getD x_2.2.2.toNat (0:Int)) (headAtL ((beginsL (spotsF x.1).1).getD x_2.2.2.toNat (0:Int)) (spotsF x.1).1).1).getD x_3.2.2.toNat (0:Int))&&!inL x_3.1 ((namedL x.1 ((beginsL (spotsF x.1).1).getD x_2.2.2.toNat (0:Int)) (headAtL ((beginsL (spotsF x.1).1).getD x_2.2.2.toNat (0:Int)) (spotsF x.1).1).1).getD x_3.2.2.toNat (0:Int)))=false→InR IntKind.i64 (x_3.2.2+(1:Int))∧((0:Int)≤x_3.2.2+(1:Int)∧x_3.2.2+(1:Int)≤(↑(namedL x.1 ((beginsL (spotsF x.1).1).getD x_2.2.2.toNat (0:Int)) (headAtL ((beginsL (spotsF x.1).1).getD x_2.2.2.toNat (0:Int)) (spotsF x.1).1).1).length:Int)∧(∀ (x:Int),x∈x_2.1→x∈x_3.1)∧(∀ (x_4:Int),x_4∈x_3.1→x_4∈x_2.1∨x_4∈namedL x.1 ((beginsL (spotsF x.1).1).getD x_2.2.2.toNat (0:Int)) (headAtL ((beginsL (spotsF x.1).1).getD x_2.2.2.toNat (0:Int)) (spotsF x.1).1).1∧(0:Int)≤x_4)∧x_3.1.length+cntR x_2.1≤x_2.1.length+cntR x_3.1∧(x_3.2.1=false→x_2.2.1=false∧x_3.1=x_2.1∧∀ (y:Int),y∈List.take (x_3.2.2+(1:Int)).toNat (namedL x.1 ((beginsL (spotsF x.1).1).getD x_2.2.2.toNat (0:Int)) (headAtL ((beginsL (spotsF x.1).1).getD x_2.2.2.toNat (0:Int)) (spotsF x.1).1).1)→(0:Int)≤y→y∈x_2.1)∧(x_3.2.1=true→x_2.2.1=true∨cntR x_2.1<cntR x_3.1)∧(x_2.2.1=true→x_3.2.1=true))∧((↑(namedL x.1 ((beginsL (spotsF x.1).1).getD x_2.2.2.toNat (0:Int)) (headAtL ((beginsL (spotsF x.1).1).getD x_2.2.2.toNat (0:Int)) (spotsF x.1).1).1).length:Int) - (x_3.2.2+(1:Int))).toNat<((↑(namedL x.1 ((beginsL (spotsF x.1).1).getD x_2.2.2.toNat (0:Int)) (headAtL ((beginsL (spotsF x.1).1).getD x_2.2.2.toNat (0:Int)) (spotsF x.1).1).1).length:Int) - x_3.2.2).toNat))∧(decide (x_3.2.2<(↑(namedL x.1 ((beginsL (spotsF x.1).1).getD x_2.2.2.toNat (0:Int)) (headAtL ((beginsL (spotsF x.1).1).getD x_2.2.2.toNat (0:Int)) (spotsF x.1).1).1).length:Int))=false→InR IntKind.i64 (x_2.2.2+(1:Int))∧((0:Int)≤x_2.2.2+(1:Int)∧x_2.2.2+(1:Int)≤(↑(beginsL (spotsF x.1).1).length:Int)∧InReach x.1 x.2 x_3.1∧(x_3.2.1=false→x_3.1=x_1.1∧∀ (x_4:Int),x_4∈List.take (x_2.2.2+(1:Int)).toNat (beginsL (spotsF x.1).1)→x_4∈x_1.1→∀ (y:Int),y∈outsA x.1 x_4→y∈x_1.1)∧(x_3.2.1=true→cntR x_1.1<cntR x_3.1))∧((↑(beginsL (spotsF x.1).1).length:Int) - (x_2.2.2+(1:Int))).toNat<((↑(beginsL (spotsF x.1).1).length:Int) - x_2.2.2).toNat)))∧(decide (x_2.2.2<(↑(beginsL (spotsF x.1).1).length:Int))=false→(InReach x.1 x.2 x_2.1∧(x_2.2.1=false→closedR x.1 x_2.1=true))∧((2:Nat) * ((256:Nat) - cntR x_2.1)+if x_2.2.1=true then (1:Nat) else (0:Nat))<(2:Nat) * ((256:Nat) - cntR x_1.1)+if x_1.2=true then (1:Nat) else (0:Nat)))∧(x_1.2=false→True∧risingL x_1.1 (256:Nat)=reachL x.1 x.2∧True)
theorem vcp_rReached:pv_rReached:=by
 unfold pv_rReached
 intro ⟨a,f⟩ ⟨⟨hb,hw⟩,hbf,hf⟩ ⟨hff,hlen⟩
 simp only at hb hw hbf hf hff hlen ⊢
 obtain ⟨hc,hfb⟩:=fromFault_ok hff
 have hall:∀ x,Rch a f x→x∈beginsL (spotsF a).1:=fun x hx=>inL_iff.1 ((inL_begins x _).trans (hx.isB hw hc hfb))
 have hbl:=beginsL_length (spotsF a).1
 have hsl:=spotsF_length a
 have hbeg:∀ x∈beginsL (spotsF a).1,isB (spotsF a).1 x=true:=fun x hx=>by rw [← inL_begins]; exact inL_iff.2 hx
 generalize hall0:beginsL (spotsF a).1=all at *
 refine ⟨trivial,hbf,⟨⟨fun x hx=>hx,fun x hx=>.base hx,Nat.le_refl _⟩,fun h=>by cases h⟩,fun ⟨l0,ag0⟩ ⟨q1,q2⟩=>⟨fun hag=>?_,fun hag=>?_⟩⟩
 ·simp only at q1 q2 hag ⊢
  subst hag
  refine ⟨⟨by omega,by omega,q1,fun _=>⟨trivial,fun x hx=>by simp at hx⟩,fun h=>by cases h⟩,fun ⟨l,ag,i⟩ ⟨i0,i1,r1,r2,r3⟩=>⟨fun hlt=>?_,fun hge=>?_⟩⟩
  ·simp only at i0 i1 r1 r2 r3 hlt ⊢
   have hlt:=of_decide_eq_true hlt
   have ht:=take_snoc (0:Int) i0 hlt
   have hat:=getD_mem (0:Int) i0 hlt
   generalize all.getD i.toNat 0=at_ at *
   have hib:=hbeg _ hat
   refine ⟨i0,hlt,by omega,trivial,fun hin=>?_,fun hin=>?_⟩
   ·have hin:=inF hin
    simp only [InR]
    refine ⟨by omega,⟨by omega,by omega,r1,fun hf0=>⟨(r2 hf0).1,fun x hx hx0=>?_⟩,r3⟩,by omega⟩
    rw [ht] at hx
    rcases List.mem_append.1 hx with hx | hx
    ·exact (r2 hf0).2 x hx hx0
    ·rw [List.mem_singleton.1 hx] at hx0
     rw [(r2 hf0).1] at hin
     exact absurd hx0 hin
   ·have hin:=inT hin
    have hno:=fun y=>named_outs hw hc hib (y:=y)
    have hnl:(namedL a at_ (headAtL at_ (spotsF a).1).1).length≤256:=by
     have:=(isB_spot hib).2.2.2.2
     simp only [namedL,List.length_map,List.length_drop,List.length_take]; omega
    generalize namedL a at_ (headAtL at_ (spotsF a).1).1=ns at *
    refine ⟨trivial,⟨by omega,by omega,fun x hx=>hx,fun x hx=>.inl hx,by omega,fun h=>⟨h,trivial,fun y hy=>by simp at hy⟩,fun h=>.inl h,fun h=>h⟩,fun ⟨l2,ag2,j⟩ ⟨j0,j1,s1,s2,s3,s4,s5,s6⟩=>⟨fun hj=>?_,fun hj=>?_⟩⟩
    ·simp only at j0 j1 s1 s2 s3 s4 s5 s6 hj ⊢
     have hj:=of_decide_eq_true hj
     have ht2:=take_snoc (0:Int) j0 hj
     have hv:=getD_mem (0:Int) j0 hj
     generalize ns.getD j.toNat 0=v at *
     refine ⟨j0,hj,by omega,fun _=>trivial,fun hcd=>?_,fun hcd=>?_⟩
     ·rw [Bool.and_eq_true] at hcd
      have h0:=of_decide_eq_true hcd.1
      have hn:=inF hcd.2
      have hvr:=isB_range (outsA_isB hw hc hib ((hno v).1 ⟨hv,h0⟩))
      have hlt2:=cnt_lt (l:=l2) (k:=l2++[v]) (fun x hx=>by simp [hx]) (y:=v) (by simp) hn hvr.1 hvr.2
      have hle:=cnt_mono s1
      have hc2:=cnt_le (l2++[v])
      have:=r1.len
      unfold big
      simp only [List.length_append,List.length_singleton,InR]
      refine ⟨by omega,by omega,⟨by omega,by omega,fun x hx=>List.mem_append_left _ (s1 x hx),fun x hx=>?_,by omega,fun h=>(by cases h),fun _=>.inr (by omega),fun _=>trivial⟩,by omega⟩
      rcases List.mem_append.1 hx with hx | hx
      ·exact s2 x hx
      ·rw [List.mem_singleton.1 hx]
       exact .inr ⟨hv,h0⟩
     ·simp only [InR]
      refine ⟨by omega,⟨by omega,by omega,s1,s2,s3,fun h=>⟨(s4 h).1,(s4 h).2.1,fun y hy hy0=>?_⟩,s5,s6⟩,by omega⟩
      rw [ht2] at hy
      rcases List.mem_append.1 hy with hy | hy
      ·exact (s4 h).2.2 y hy hy0
      ·have hyv:=List.mem_singleton.1 hy
       rw [hyv] at hy0 ⊢
       rw [decide_eq_true hy0,Bool.true_and] at hcd
       rw [← (s4 h).2.1]
       exact inT hcd
    ·simp only at j0 j1 s1 s2 s3 s4 s5 s6 hj ⊢
     have hj:=of_decide_eq_false hj
     rw [take_end hj] at s4
     have hmo:=cnt_mono s1
     have:=r1.len
     simp only [InR]
     refine ⟨by omega,⟨by omega,by omega,⟨fun x hx=>s1 x (r1.has x hx),fun x hx=>?_,by omega⟩,fun h=>?_,fun h=>?_⟩,by omega⟩
     ·rcases s2 x hx with hx | hx
      ·exact r1.only x hx
      ·exact .step (r1.only _ hin) ((hno x).1 hx)
     ·obtain ⟨g1,g2,g3⟩:=s4 h
      refine ⟨g2.trans (r2 g1).1,fun x hx hx0 y hy=>?_⟩
      rw [ht] at hx
      rcases List.mem_append.1 hx with hx | hx
      ·exact (r2 g1).2 x hx hx0 y hy
      ·rw [List.mem_singleton.1 hx] at hy
       obtain ⟨k1,k2⟩:=(hno y).2 hy
       rw [← (r2 g1).1]
       exact g3 y k1 k2
     ·rcases s5 h with h | h
      ·have:=r3 h; omega
      ·cases ag with
       | true=>have:=r3 rfl; omega
       | false=>have:=(r2 rfl).1; subst this; omega
  ·simp only at i0 i1 r1 r2 r3 hge ⊢
   have hge:=of_decide_eq_false hge
   rw [take_end hge] at r2
   have hc2:=cnt_le l
   refine ⟨⟨r1,fun h=>closedR_iff.2 (fun x hx=>?_)⟩,?_⟩
   ·obtain ⟨e,h2⟩:=r2 h
    subst e
    exact h2 x (hall x (r1.only x hx)) hx
   ·cases ag with
    | true=>have:=r3 rfl; simp only [if_true]; omega
    | false=>have:=(r2 rfl).1; subst this; simp only [if_true,Bool.false_eq_true,if_false]; omega
 ·simp only at q1 q2 hag ⊢
  have hcl:=closedR_iff.1 (q2 hag)
  exact ⟨trivial,(Full.mk q1.has q1.only hcl).rising hw hc hfb,trivial⟩
theorem e_rReached:pv_rReached=(fnVC Tryz.prog (tbl [(43,sp_rBegins),(44,sp_rIn),(45,sp_rNamed),(46,sp_rRising)]) an_rReached Tryz.f12 sp_rReached):=by kernel_rfl
theorem vc_rReached:fnVC Tryz.prog (tbl [(43,sp_rBegins),(44,sp_rIn),(45,sp_rNamed),(46,sp_rRising)]) an_rReached Tryz.f12 sp_rReached:=@Eq.mp _ _ @e_rReached @vcp_rReached
theorem ok_rReached:sp_rReached.ok Tryz.prog 12:=fn_sound (P:=Tryz.prog) (ss:=tbl [(43,sp_rBegins),(44,sp_rIn),(45,sp_rNamed),(46,sp_rRising)]) (ann:=an_rReached) (f:=12) (fn:=Tryz.f12) (s:=sp_rReached) (tbl_cons ok_rBegins (tbl_cons ok_rIn (tbl_cons ok_rNamed (tbl_cons ok_rRising tbl_nil)))) Tryz.func12 @vc_rReached
structure Seen (m:List (Int×Bool)) (o:List Int):Prop where
 nodup:o.Nodup
 is:∀ x,(mget m x).getD false=inL o x
theorem Seen.new:Seen [] []:=⟨List.nodup_nil,fun _=>rfl⟩
theorem Seen.add {m:List (Int×Bool)} {o:List Int} {x:Int} (h:Seen m o) (hn:(!(mget m x).getD false)=true):Seen (mput m x true) (o++[x]):=by
 rw [h.is] at hn
 refine ⟨?_,fun y=>?_⟩
 ·rw [List.nodup_append]
  exact ⟨h.nodup,by simp,fun y hy z hz=>by rw [List.mem_singleton.1 hz]; rintro rfl; exact inF hn hy⟩
 ·rw [mget_mput]
  by_cases hy:y=x
  ·subst hy
   rw [if_pos rfl]
   exact (inL_iff.2 (by simp)).symm
  ·rw [if_neg hy,h.is]
   unfold inL
   rw [List.any_append]
   simp [Ne.symm hy]
theorem Seen.mem {m:List (Int×Bool)} {o:List Int} {x:Int} (h:Seen m o) (hn:(!(mget m x).getD false)=false):x∈o:=by
 rw [h.is] at hn
 exact inT hn
theorem nodup_len {o:List Int} (hd:o.Nodup) (hr:∀ x∈o,0≤x∧x≤255):o.length≤256:=by
 have h1:=sortI_sorted o
 have h2:(sortI o).Nodup:=(List.mergeSort_perm o _).nodup_iff.2 hd
 have h3:(sortI o).Pairwise (·<·):=(h1.and h2).imp (fun ⟨x,y⟩=>by omega)
 have h4:=pairwise_length (s:=0) h3 (fun x hx=>hr x (sortI_mem.1 hx)) (by omega)
 rw [sortI_length] at h4
 omega
end Go.Proofs.YtglchojglcobjaaGreat
