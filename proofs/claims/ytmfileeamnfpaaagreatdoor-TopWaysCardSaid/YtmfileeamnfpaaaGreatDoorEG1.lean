
import Derived.WalkKit
import Derived.KernelRfl
import Derived.Maps.RangeRun
import Derived.Test.YtmfileeamnfpaaaGreatDoorProg
namespace Go.Proofs.YtmfileeamnfpaaaGreatDoor
open Go
abbrev Ps:=@Option.some.injEq
abbrev Pt:=@of_decide_eq_true
abbrev Pu:=@of_decide_eq_false
abbrev Pv:=@Prod.mk.injEq
abbrev Pw:=@Nat.eq_of_beq_eq_true
abbrev Px:=@Bool.and_eq_true
abbrev Py:=@Option.map_eq_some_iff
abbrev Pz:=@List.length_cons
abbrev PA:=@List.all_eq_true
abbrev PB:=@List.mem_singleton
abbrev PC:=@List.length_append
abbrev PD:=@List.mem_cons
abbrev PE:=@List.mem_append_left
abbrev PF:=@cond_false
abbrev PG:=@Bool.false_eq_true
abbrev PI:=@List.mem_append
abbrev PJ:=@List.take_of_length_le
abbrev PK:=@List.mem_append_right
abbrev PL:=@Result.andThen_ok
abbrev PM:=@List.length_take
abbrev PN:=@Nat.le_of_ble_eq_true
abbrev PO:=@List.eq_nil_of_length_eq_zero
abbrev PP:=@Nat.le_refl
abbrev PQ:=@List.take_append_of_le_length
abbrev PR:=@Sem.run_bind
abbrev PS:=@run_underlying
abbrev PT:=@List.append_assoc
abbrev PU:=@Nat.lt_or_ge
abbrev PV:=@List.mem_cons_self
abbrev PW:=@List.length_drop
abbrev PX:=@Bool.not_eq_true'
abbrev PY:=@List.contains_iff_mem
abbrev PZ:=@cond_true
abbrev P0:=@List.nil_append
abbrev P1:=@List.mem_cons_of_mem
abbrev P2:=@Sem.run_pure
abbrev P3:=@List.mem_map
abbrev P4:=@List.length_nil
abbrev P5:=@if_false
abbrev P6:=@Array.toList_inj
abbrev P7:=@List.drop_of_length_le
abbrev P8:=@Nat.mul_le_mul_right
abbrev P9:=@Nat.le_trans
abbrev Qa:=@Nat.zero_le
abbrev Qb:=@Option.map_some
abbrev Qc:=@List.length_map
abbrev Qd:=@List.length_replicate
abbrev Qe:=@List.pairwise_cons
abbrev Qf:=@List.map_cons
abbrev Qg:=@Nat.zero_add
abbrev Qh:=@List.take_succ_eq_append_getElem
abbrev Qi:=@List.append_nil
abbrev Qj:=@List.filter_cons_of_pos
abbrev Qk:=@decide_eq_true_eq
abbrev Ql:=@List.flatMap_cons
abbrev Qm:=@Classical.byContradiction
abbrev Qn:=@List.map_append
abbrev Qo:=@List.length_singleton
abbrev Qp:=@List.mem_filter
abbrev Qq:=@Bool.or_eq_true
abbrev Qr:=@List.take_append_drop
abbrev Qs:=@List.cons_append
abbrev Qt:=@List.any_eq_true
abbrev Qu:=@Nat.mul_le_mul_left
abbrev Qv:=@List.all_cons
abbrev Qw:=@decide_eq_false_iff_not
abbrev Qx:=@List.size_toArray
abbrev Qy:=@List.filter_cons_of_neg
abbrev Qz:=@Nat.lt_of_lt_of_le
abbrev QA:=@decide_eq_true
abbrev QB:=@List.mem_of_mem_drop
abbrev QC:=@Int.toNat_natCast
abbrev QD:=@List.length_filter_le
abbrev QE:=@Array.length_toList
abbrev QF:=@List.mem_of_mem_take
abbrev QG:=@Bool.or_eq_false_iff
abbrev QH:=@Nat.mul_one
abbrev QI:=@decide_eq_false
abbrev QJ:=@Option.some.inj
abbrev QK:=@Int.eq_ofNat_of_zero_le
abbrev QL:=@Bool.true_and
abbrev QM:=@List.mem_of_getElem?
abbrev QN:=@List.drop_eq_getElem_cons
abbrev QO:=@heap_alloc_new
abbrev QP:=@Nat.min_eq_left
abbrev QQ:=@List.take_take
abbrev QR:=@Nat.succ_mul
abbrev QS:=@List.count_le_length
abbrev QT:=@Tryz.ntmps58
abbrev QU:=@Nat.add_zero
abbrev QV:=@List.take_succ_cons
abbrev QW:=@List.map_congr_left
abbrev QX:=@List.drop_succ_cons
abbrev QY:=@size_madeCells
abbrev QZ:=@List.drop_drop
abbrev Q0:=@Bool.or_false
abbrev Q1:=@List.foldl_cons
abbrev Q2:=@List.mem_filterMap
abbrev Q3:=@Tryz.func58
abbrev Q4:=@List.any_cons
abbrev Q5:=@List.take_zero
abbrev Q6:=@List.filter_append
abbrev Q7:=@Option.isSome_iff_exists
abbrev Q8:=@Bool.false_and
abbrev Q9:=@List.nodup_cons
abbrev Ra:=@List.length_set
abbrev Rb:=@MapKept.run_getObj_map
abbrev Rc:=@List.drop_eq_nil_of_le
abbrev Rd:=@run_program
abbrev Re:=@Bool.false_or
abbrev Rf:=@Tryz.underlying4
abbrev Rg:=@Option.getD_some
abbrev Rh:=@Option.bind_some
abbrev Ri:=@List.mem_flatMap
abbrev Rj:=@List.map_toArray
abbrev Rk:=@Array.mem_append
abbrev Rl:=@List.set_append_right
abbrev Rm:=@List.pairwise_iff_getElem
abbrev Rn:=@Oper.upon_enter
abbrev Ro:=@true_and
abbrev Rp:=@World.ownsRow_nil
abbrev Rq:=@List.map_nil
abbrev Rr:=@List.foldl_append
abbrev Rt:=@List.ext_getElem?
abbrev Ru:=@Nat.add_assoc
abbrev Rv:=@List.replicate_succ
abbrev Rw:=@Int.toNat_of_nonneg
abbrev Rx:=@List.drop_append
abbrev Ry:=@Nat.add_mul
abbrev Rz:=@and_self
abbrev RA:=@Bool.not_true
abbrev RB:=@and_true
abbrev RC:=@List.pairwise_append
abbrev RD:=@List.mem_range
abbrev RE:=@Int.ofNat_eq_natCast
abbrev RF:=@Tryz.underlying3
abbrev RG:=@Tryz.underlying0
abbrev RH:=@List.all_nil
abbrev RI:=@List.length_pos_iff
abbrev RJ:=@List.flatMap_append
abbrev RK:=@List.filter_eq_self
abbrev RL:=@Tryz.zeroValue4
abbrev RM:=@Tryz.zeroValue3
abbrev RN:=@Tryz.zeroValue0
abbrev RO:=@Bool.eq_iff_iff
abbrev RP:=@beq_iff_eq
abbrev RQ:=@Int.le_refl
abbrev RR:=@Nat.sub_self
abbrev RS:=@List.nodup_append
abbrev RU:=@List.drop_zero
abbrev RV:=@List.count_append
abbrev RW:=@List.any_eq_false
abbrev RX:=@Addr.add_lit
abbrev RY:=@List.length_mergeSort
abbrev RZ:=@decide_eq_decide
abbrev R0:=@and_assoc
abbrev R1:=@List.take_append
abbrev R2:=@List.not_mem_nil
abbrev R3:=@Array.toList_map
abbrev R4:=@List.mem_iff_getElem
abbrev R5:=@List.drop_append_of_le_length
abbrev R6:=@Array.toArray_toList
abbrev R7:=@List.filterMap_cons
abbrev R8:=@Tryz.sizeOf4
abbrev R9:=@Tryz.sizeOf3
abbrev Sa:=@Tryz.sizeOf0
abbrev Sb:=@Int.sub_zero
abbrev Sc:=@Array.getD_eq_getD_getElem?
abbrev Sd:=@grownCap_le_maxLen
abbrev Se:=@World.grownBy.refl
abbrev Sf:=@Tryz.underlying267
abbrev Sg:=@Tryz.underlying182
abbrev Sh:=@List.nodup_nil
abbrev Sk:=@Bool.not_false
abbrev Sl:=@List.mem_or_eq_of_mem_set
abbrev Sm:=@Tryz.zeroValue267
abbrev Sn:=@Tryz.zeroValue182
abbrev So:=@Tryz.underlying45
abbrev Sp:=@Tryz.underlying31
abbrev Sq:=@Tryz.isAgg4
abbrev Su:=@Tryz.isAgg3
abbrev Sv:=@Tryz.isAgg0
inductive Ty where
 | int (k:IntKind)
 | bool
 | str
 | arr (T:Ty)
 | pair (A B:Ty)
 | nil
 | ref (T:Ty)
 | fn (A B:Ty)
 | map (k:IntKind) (V:Ty)
 deriving DecidableEq
def Ty.den:Ty->Type
 | .int _=>Int
 | .bool=>Bool
 | .str=>List UInt8
 | .arr T=>List T.den
 | .pair A B=>A.den×B.den
 | .nil=>Unit
 | .ref T=>T.den
 | .fn A B=>(A.den->Prop)×(A.den->B.den)
 | .map _ V=>List (Int×V.den)
def Ty.size:Ty->Nat
 | .pair A B=>A.size+B.size
 | _=>1
def Ty.bytes:Ty->Nat
 | .int _=>8
 | .bool=>8
 | .str=>16
 | .arr _=>24
 | .pair A B=>A.bytes+B.bytes
 | .nil=>24
 | .ref _=>8
 | .fn _ _=>8
 | .map _ _=>8
def Ty.dflt:(T:Ty)->T.den
 | .int _=>(0:Int)
 | .bool=>false
 | .str=>([]:List UInt8)
 | .arr T=>([]:List T.den)
 | .pair A B=>(A.dflt,B.dflt)
 | .nil=>()
 | .ref T=>T.dflt
 | .fn _ B=>(fun _=>False,fun _=>B.dflt)
 | .map _ V=>([]:List (Int×V.den))
def am:IntKind->Int->Prop
 | .i8,n=>-128<=n/\n<=127
 | .i16,n=>-32768<=n/\n<=32767
 | .i32,n=>-2147483648<=n/\n<=2147483647
 | .i64,n=>-9223372036854775808<=n/\n<=9223372036854775807
 | .u8,n=>0<=n/\n<=255
 | .u16,n=>0<=n/\n<=65535
 | .u32,n=>0<=n/\n<=4294967295
 | .u64,n=>0<=n/\n<=18446744073709551615
theorem dz {k:IntKind} {n:Int} (h:am k n):k.wrap n=n:=by
 cases k <;> simp [am,IntKind.wrap,IntKind.bits,IntKind.signed] at h |- <;> omega
theorem pQ (k:IntKind) (n:Int):am k (k.wrap n):=by
 cases k <;> simp [am,IntKind.wrap,IntKind.bits,IntKind.signed] <;> omega
inductive Blk where
 | cells (cs:Array Value)
 | map (es:Array MapEntry) (clock:Nat)
def Blk.get:Blk->Nat->Option Value
 | .cells cs,o=>cs[o]?
 | .map _ _,_=>none
def jz (es:Array MapEntry) (clock:Nat):Prop:=(es.toList.map (·.born)).Pairwise (·<·)/\∀ e∈es.toList,e.born<clock
def Blk.In:Blk->Option Obj->Prop
 | .cells cs,o=>∃ t fz,o=some (.cells cs t fz)
 | .map es clock,o=>o=some (.map es clock)
abbrev PH:=Nat->Option Blk
def PH.cell (p:PH) (b o:Nat):Option Value:=(p b).bind (fun cs=>cs.get o)
def PH.le (p q:PH):Prop:=∀ b cs,p b=some cs->q b=some cs
theorem PH.le.refl (p:PH):PH.le p p:=fun _ _ h=>h
theorem PH.le.trans {p q r:PH} (h:PH.le p q) (k:PH.le q r):PH.le p r:=fun b cs e=>k b cs (h b cs e)
theorem PH.le.cell {p q:PH} (h:PH.le p q) {b o:Nat} {v:Value} (e:p.cell b o=some v):q.cell b o=some v:=by
 unfold PH.cell at e |-;cases hp:p b with
 | none=>rw [hp] at e; cases e
 | some cs=>rw [hp] at e; rw [h b cs hp]; exact e
def aM {α:Type} (h:α->List Value->Prop):List α->List Value->Prop
 | [],cs=>cs=[]
 | x::xs,cs=>∃ c1 c2,cs=c1++c2/\h x c1/\aM h xs c2
def aF:Nat:=140737488355328
def Agrees (p:PH) (w:World):Prop:=∀ b cs,p b=some cs->cs.In w.heap[b]?
def cq {α:Type} (k:IntKind) (h:α->Value->Prop):List (Int×α)->List MapEntry->Prop
 | [],es=>es=[]
 | x::m,es=>∃ e es',es=e::es'/\e.key=.int k x.1/\am k x.1/\h x.2 e.val/\cq k h m es'
def aC {α:Type}:List (Int×α)->Int->Option α
 | [],_=>none
 | x::m,k=>if x.1=k then some x.2 else aC m k
def cR {α:Type}:List (Int×α)->Int->α->List (Int×α)
 | [],k,v=>[(k,v)]
 | x::m,k,v=>if x.1=k then (k,v)::m else x::cR m k v
structure Keep (M:Nat->Prop) (w0 w:World):Prop where
 os:w.os=w0.os
 tape:w.tape=w0.tape
 output:w.output=w0.output
 size:w0.heap.size<=w.heap.size
 block:∀ i,i<w0.heap.size->¬ M i->w.heap[i]?=w0.heap[i]?
def PH.union (p q:PH):PH:=fun b=>match p b with | some c=>some c | none=>q b
def cT (P:Program) (f:FuncId):Bool :=
 match P.funcs[f]? with
 | some fn => !(fn.name == "runtime.NumGoroutine") && fn.body.isSome
 | none=>false
def Ty.isPair:Ty->Bool
 | .pair _ _=>true
 | _=>false
def fv (T:Ty) (h:List Value->Prop) (v:Value):Prop:=if T.isPair=true then ∃ cs,v=.agg cs/\h cs.toList else h [v]
def Ty.isNil:Ty->Bool
 | .nil=>true
 | _=>false
def Pe:Nat:=167
def Ty.holds:(T:Ty)->PH->T.den->List Value->Prop
 | .int k,_,n,cs=>cs=[.int k n]/\am k n
 | .bool,_,b,cs=>cs=[.bool b]
 | .str,_,s,cs=>cs=[.string ⟨s.toArray⟩]/\s.length<=aF
 | .arr T,p,xs,cs=>∃ A c l,cs=[.slice A xs.length c]/\xs.length<=c/\xs.length * T.bytes<=aF/\aM (T.holds p) xs l /\
   (xs≠[]->∃ b o,A=some ⟨b,o,none⟩/\∀ j u,l[j]?=some u->p.cell b (o+j)=some u)
 | .pair A B,p,x,cs=>∃ c1 c2,cs=c1++c2/\A.holds p x.1 c1/\B.holds p x.2 c2
 | .nil,_,_,cs=>cs=[.slice none 0 0]
 | .ref T,p,x,cs=>∃ b o l,cs=[.pointer (some ⟨b,o,none⟩)]/\T.holds p x l/\∀ j u,l[j]?=some u->p.cell b (o+j)=some u
 | .fn A B,p,g,cs=>∃ f v1 v2,cs=[.func (.func f) v1 v2]/\cT Tryz.prog f=true/\(A.isNil=false->∀ (q:PH) (w:World) (va:Value) (x:A.den),PH.le p q->Agrees q w->fv A (A.holds q x) va->g.1 x ->
   Calls Tryz.prog f (v1++#[va]++v2) w fun e w'=>∃ r q',e=.returned r/\Keep (fun _=>False) w w'/\(∀ b cs,q' b=some cs->w.heap.size<=b)/\Agrees q' w'/\fv B (B.holds (q.union q') (g.2 x)) r) /\
   (A.isNil=true->f=Pe/\v1=#[]/\∃ b o l,v2=#[.pointer (some ⟨b,o,none⟩)]/\(∀ z:A.den,B.holds p (g.2 z) l)/\∀ j u,l[j]?=some u->p.cell b (o+j)=some u)
 | .map k V,p,m,cs=>(cs=[.map none]/\(show List (Int×V.den) from m)=[])\/∃ r es c,cs=[.map (some r)]/\p r=some (.map es c)/\cq k (fun x v=>fv V (V.holds p x) v) m es.toList
def Ty.wf:(T:Ty)->T.den->Prop
 | .int k,n=>am k n
 | .bool,_=>True
 | .str,s=>s.length<=aF
 | .arr T,xs=>(show List T.den from xs).length * T.bytes<=aF/\∀ x∈(show List T.den from xs),T.wf x
 | .pair A B,x=>A.wf x.1/\B.wf x.2
 | .nil,_=>True
 | .ref T,x=>T.wf x
 | .fn _ _,_=>True
 | .map k V,m=>∀ x∈(show List (Int×V.den) from m),am k x.1/\V.wf x.2
theorem dx {α:Type} {h k:α->List Value->Prop} (hk:∀ x cs,h x cs->k x cs):∀ (xs:List α) (cs:List Value),aM h xs cs->aM k xs cs
 | [],_,e=>e
 | _::xs,_,⟨c1,c2,e,h1,h2⟩=>⟨c1,c2,e,hk _ _ h1,dx hk xs _ h2⟩
theorem cf {α:Type} {k:IntKind} {h h':α->Value->Prop} (hk:∀ x v,h x v->h' x v):∀ (m:List (Int×α)) (es:List MapEntry),cq k h m es->cq k h' m es
 | [],_,e=>e
 | _::m,_,⟨e,es',e1,h1,h2,h3,h4⟩=>⟨e,es',e1,h1,h2,hk _ _ h3,cf hk m _ h4⟩
theorem dH {T:Ty} {h h':List Value->Prop} (hk:∀ cs,h cs->h' cs) {v:Value} (hv:fv T h v):fv T h' v:=by
 unfold fv at hv |-;split
 ·rename_i hp;rw [if_pos hp] at hv;obtain ⟨cs,e,h1⟩:=hv;exact ⟨cs,e,hk _ h1⟩
 ·rename_i hp;rw [if_neg hp] at hv;exact hk _ hv
theorem Ty.holds_mono {p q:PH} (h:PH.le p q):∀ (T:Ty) (x:T.den) (cs:List Value),T.holds p x cs->T.holds q x cs
 | .nil,_,_,e=>e
 | .ref T,_,_,⟨b,o,l,e,hl,hc⟩=>⟨b,o,l,e,Ty.holds_mono h T _ _ hl,fun j u hu=>h.cell (hc j u hu)⟩
 | .fn _ B,_,_,⟨f,v1,v2,e,hc,hf,hs⟩=>⟨f,v1,v2,e,hc,fun hn r w va x hr=>hf hn r w va x (h.trans hr),fun hn=>by
   obtain ⟨e1,e2,b,o,l,e3,hl,hcell⟩:=hs hn;exact ⟨e1,e2,b,o,l,e3,fun z=>Ty.holds_mono h B _ _ (hl z),fun j u hu=>h.cell (hcell j u hu)⟩⟩
 | .map _ _,_,_,.inl e=>.inl e
 | .map _ V,_,_,.inr ⟨r,es,c,e,hp,hm⟩=>.inr ⟨r,es,c,e,h _ _ hp,cf (fun x _=>dH (fun cs=>Ty.holds_mono h V x cs)) _ _ hm⟩
 | .int _,_,_,e=>e
 | .bool,_,_,e=>e
 | .str,_,_,e=>e
 | .arr T,_,_,⟨A,c,l,e,hc,hb,hr,hp⟩=>⟨A,c,l,e,hc,hb,dx (fun x cs=>Ty.holds_mono h T x cs) _ _ hr,fun hne=>by
   obtain ⟨b,o,ha,hcell⟩:=hp hne;exact ⟨b,o,ha,fun j u hu=>h.cell (hcell j u hu)⟩⟩
 | .pair A B,_,_,⟨c1,c2,e,h1,h2⟩=>⟨c1,c2,e,Ty.holds_mono h A _ _ h1,Ty.holds_mono h B _ _ h2⟩
theorem c6 {α:Type} {h:α->List Value->Prop} {n:Nat} (hn:∀ x cs,h x cs->cs.length=n):∀ (xs:List α) (cs:List Value),aM h xs cs->cs.length=xs.length * n
 | [],_,e=>by simp [aM] at e; simp [e]
 | _::xs,_,⟨c1,c2,e,h1,h2⟩=>by
  rw [e,PC,hn _ _ h1,c6 hn xs _ h2,Pz,QR]; omega
theorem Ty.holds_length {p:PH}:∀ (T:Ty) (x:T.den) (cs:List Value),T.holds p x cs->cs.length=T.size
 | .nil,_,_,e=>by simp only [Ty.holds] at e; rw [e]; rfl
 | .ref _,_,_,⟨_,_,_,e,_⟩=>by rw [e]; rfl
 | .fn _ _,_,_,⟨_,_,_,e,_⟩=>by rw [e]; rfl
 | .map _ _,_,_,.inl e=>by rw [e.1]; rfl
 | .map _ _,_,_,.inr ⟨_,_,_,e,_⟩=>by rw [e]; rfl
 | .int _,_,_,e=>by rw [e.1]; rfl
 | .bool,_,_,e=>by simp only [Ty.holds] at e; rw [e]; rfl
 | .str,_,_,e=>by rw [e.1]; rfl
 | .arr _,_,_,⟨_,_,_,e,_⟩=>by rw [e]; rfl
 | .pair A B,_,_,⟨c1,c2,e,h1,h2⟩=>by
  rw [e,PC,Ty.holds_length A _ _ h1,Ty.holds_length B _ _ h2]; rfl
theorem Ty.size_pos:∀ T:Ty,0<T.size
 | .int _=>by simp [Ty.size]
 | .bool=>by simp [Ty.size]
 | .str=>by simp [Ty.size]
 | .arr _=>by simp [Ty.size]
 | .nil=>by simp [Ty.size]
 | .ref _=>by simp [Ty.size]
 | .fn _ _=>by simp [Ty.size]
 | .map _ _=>by simp [Ty.size]
 | .pair A B=>by have:=Ty.size_pos A; simp [Ty.size]; omega
theorem tR {α:Type} {h:α->List Value->Prop} {k:α->Prop} (hk:∀ x cs,h x cs->k x):∀ (xs:List α) (cs:List Value),aM h xs cs->∀ x∈xs,k x
 | [],_,_=>by simp
 | y::xs,_,⟨c1,c2,_,h1,h2⟩=>by
  intro x hx;rcases PD.1 hx with rfl | hx
  ·exact hk _ _ h1
  ·exact tR hk xs _ h2 x hx
theorem uD {α:Type} {k:IntKind} {h:α->Value->Prop} {r:α->Prop} (hk:∀ x v,h x v->r x):∀ (m:List (Int×α)) (es:List MapEntry),cq k h m es->∀ x∈m,am k x.1/\r x.2
 | [],_,_=>by simp
 | y::m,_,⟨_,es',_,_,h2,h3,h4⟩=>by
  intro x hx;rcases PD.1 hx with rfl | hx
  ·exact ⟨h2,hk _ _ h3⟩
  ·exact uD hk m es' h4 x hx
theorem Hx {T:Ty} {h:List Value->Prop} {r:Prop} (hk:∀ cs,h cs->r) {v:Value} (hv:fv T h v):r:=by
 unfold fv at hv;split at hv
 ·obtain ⟨cs,_,h1⟩:=hv;exact hk _ h1
 ·exact hk _ hv
theorem Ty.holds_wf {p:PH}:∀ (T:Ty) (x:T.den) (cs:List Value),T.holds p x cs->T.wf x
 | .int _,_,_,e=>e.2
 | .bool,_,_,_=>trivial
 | .str,_,_,e=>e.2
 | .arr T,_,_,⟨_,_,_,_,_,hb,hr,_⟩=>⟨hb,tR (fun x cs=>Ty.holds_wf T x cs) _ _ hr⟩
 | .pair A B,_,_,⟨_,_,_,h1,h2⟩=>⟨Ty.holds_wf A _ _ h1,Ty.holds_wf B _ _ h2⟩
 | .nil,_,_,_=>trivial
 | .ref T,_,_,⟨_,_,_,_,h,_⟩=>Ty.holds_wf T _ _ h
 | .fn _ _,_,_,_=>trivial
 | .map _ V,m,_,.inl e=>by
  have:(show List (Int×V.den) from m)=[]:=e.2;intro x hx;rw [this] at hx;cases hx
 | .map _ V,_,_,.inr ⟨_,_,_,_,_,hm⟩=>uD (fun x _ h=>Hx (fun cs=>Ty.holds_wf V x cs) h) _ _ hm
theorem kl {α:Type} {h:α->List Value->Prop} {n:Nat} (hn:∀ x cs,h x cs->cs.length=n):∀ (xs:List α) (cs:List Value),aM h xs cs ->
  ∀ (j:Nat) (x:α),xs[j]?=some x->h x ((cs.drop (j * n)).take n)
 | [],_,_=>by intro j x hx; simp at hx
 | y::xs,cs,⟨c1,c2,e,h1,h2⟩=>by
  intro j x hx;have l1:=hn _ _ h1
  match j with
  | 0 =>
   simp at hx;subst hx;rw [e];simp only [Nat.zero_mul,RU];rw [PQ (by omega),PJ (by omega)];exact h1
  | j+1 =>
   simp at hx;have:=kl hn xs c2 h2 j x hx;rw [e]
   have e2:(c1++c2).drop ((j+1) * n)=c2.drop (j * n):=by
    rw [QR,Rx,P7 (by omega)];simp only [P0];congr 1;omega
   rw [e2];exact this
theorem cB {α:Type} {h:α->List Value->Prop}:∀ (xs ys:List α) (cs ds:List Value),aM h xs cs->aM h ys ds->aM h (xs++ys) (cs++ds)
 | [],ys,cs,ds,h1,h2=>by simp only [aM] at h1; subst h1; exact h2
 | x::xs,ys,cs,ds,⟨c1,c2,e,hx,hxs⟩,h2=>⟨c1,c2++ds,by rw [e,PT],hx,cB xs ys c2 ds hxs h2⟩
inductive AV where
 | any
 | int (k:IntKind) (n:Int)
 | bool (b:Bool)
 | str (s:List UInt8)
 | nils
 | sl (T:Ty) (xs:List T.den)
 | own (d:Nat)
 | pair (a b:AV)
 | tup (a b:AV)
 | tnil
 | loc (d off:Nat)
 | pt (T:Ty) (x:T.den) (off:Nat)
 | el (d:Nat) (T:Ty) (i:Nat) (off:Nat)
 | fn (f:Nat) (c1 c2:List (Nat×Nat))
 | mp (d:Nat)
 | gd (g:Nat) (w:Bool) (a:AV)
 | bl (t f:Prop)
 | osl (d:Nat) (T:Ty) (i n:Nat)
 | psl (d i n:Nat)
 | fd (A B:Ty) (g:(A.den->Prop)×(A.den->B.den))
 | md (k:IntKind) (V:Ty) (m:List (Int×V.den))
 | nilm
 | nilf
inductive LE where
 | cells (c:AV)
 | row (e:TypeId) (T:Ty) (xs:List T.den)
 | froz (T:Ty) (xs:List T.den)
 | mapp (k:IntKind) (V:Ty) (m:List (Int×V.den))
 | frozm (k:IntKind) (V:Ty) (m:List (Int×V.den))
 | iter (k:IntKind) (V:Ty) (l:List (Int×V.den)) (cur:Option (Int×V.den))
 | mapo (k:IntKind) (V:Ty) (m:List (Int×Option V.den)) (x:Int) (c:AV)
 | dead
 | frame (tm:Array Value) (env:Nat->AV)
def LE.live:LE->Bool
 | .cells _=>true
 | .row ..=>true
 | .mapp ..=>true
 | .iter ..=>true
 | .mapo ..=>true
 | _=>false
def AV.app:AV->AV->AV
 | .pair a b,c=>.pair a (b.app c)
 | a,c=>.pair a c
def AV.len:AV->Nat
 | .pair _ b=>1+b.len
 | _=>1
def AV.drop:Nat->AV->AV
 | 0,a=>a
 | n+1,.pair _ b=>b.drop n
 | _+1,_=>.any
def AV.take:Nat->AV->AV
 | 0,_=>.any
 | 1,.pair a _=>a
 | 1,a=>a
 | n+2,.pair a b=>.pair a (b.take (n+1))
 | _+2,_=>.any
def AV.put:Nat->AV->Nat->AV->AV
 | 0,v,n,a=>if Nat.beq a.len n then v else v.app (a.drop n)
 | off+1,v,n,.pair a b=>.pair a (AV.put off v n b)
 | _+1,_,_,_=>.any
def Ty.av:(T:Ty)->T.den->AV
 | .int k,n=>.int k n
 | .bool,b=>.bool b
 | .str,s=>.str s
 | .arr T,xs=>.sl T xs
 | .pair A B,x=>(A.av x.1).app (B.av x.2)
 | .nil,_=>.nils
 | .ref T,x=>.pt T x 0
 | .fn A B,g=>.fd A B g
 | .map k V,m=>.md k V m
def b8:Value->Option Nat
 | .pointer (some a)=>some a.block
 | .slice (some a) _ _=>some a.block
 | .map (some r)=>some r
 | _=>none
def ij (β:Nat->Value):List (Nat×Nat)->List Value->Prop
 | [],vs=>vs=[]
 | (d,off)::c,vs=>∃ b rest,vs=.pointer (some ⟨b,off,none⟩)::rest/\β d=.pointer (some ⟨b,0,none⟩)/\ij β c rest
def AV.one (p:PH) (β:Nat->Value):AV->Value->Prop
 | .any,_=>True
 | .int k n,v=>v=.int k n/\am k n
 | .bool b,v=>v=.bool b
 | .str s,v=>v=.string ⟨s.toArray⟩/\s.length<=aF
 | .nils,v=>v=.slice none 0 0
 | .sl T xs,v=>(Ty.arr T).holds p xs [v]
 | .own d,v=>v=β d
 | .loc d off,v=>∃ b,β d=.pointer (some ⟨b,0,none⟩)/\v=.pointer (some ⟨b,off,none⟩)
 | .pt T x off,v=>∃ b o es,v=.pointer (some ⟨b,o+off,none⟩)/\T.holds p x es/\∀ j u,es[j]?=some u->p.cell b (o+j)=some u
 | .el d T i off,v=>∃ b,b8 (β d)=some b/\v=.pointer (some ⟨b,i * T.size+off,none⟩)
 | .fn f c1 c2,v=>∃ v1 v2,v=.func (.func f) v1 v2/\ij β c1 v1.toList/\ij β c2 v2.toList
 | .mp d,v=>v=β d
 | .bl t f,v=>∃ b,v=.bool b/\(b=true->t)/\(b=false->f)
 | .osl d T i n,v=>(∃ b m c c',β d=.slice (some ⟨b,0,none⟩) m c/\v=.slice (some ⟨b,i * T.size,none⟩) n c')\/(n=0/\∃ A c,v=.slice A 0 c)
 | .fd A B g,v=>(Ty.fn A B).holds p g [v]
 | .md k V m,v=>(Ty.map k V).holds p m [v]
 | .psl d i n,v=>(∃ b c,β d=.pointer (some ⟨b,0,none⟩)/\n<=c/\v=.slice (some ⟨b,i,none⟩) n c)\/(n=0/\∃ A c,v=.slice A 0 c)
 | .nilm,v=>v=.map none
 | .nilf,v=>v=.nilFunc
 | _,_=>False
def AV.cells (p:PH) (β:Nat->Value):AV->List Value->Prop
 | .pair a b,v::cs=>a.one p β v/\b.cells p β cs
 | .pair _ _,[]=>False
 | a,[v]=>a.one p β v
 | _,_=>False
def AV.val1 (p:PH) (β:Nat->Value):AV->Value->Prop
 | .pair a b,v=>∃ cs,v=.agg cs/\(AV.pair a b).cells p β cs.toList
 | a,v=>a.one p β v
def AV.vals (p:PH) (β:Nat->Value):AV->List Value->Prop
 | .tup a b,v::vs=>a.val1 p β v/\b.vals p β vs
 | .tnil,[]=>True
 | _,_=>False
def AV.val (p:PH) (β:Nat->Value) (tm:Array Value):AV->Value->Prop
 | .tup a b,v=>∃ vs,v=.tuple vs.toArray/\(AV.tup a b).vals p β vs
 | .tnil,v=>v=.tuple #[]
 | .gd g w a,v=>(tm.getD g undef=.bool w/\a.val p β tm v)\/(tm.getD g undef≠.bool w/\v=undef)
 | a,v=>a.val1 p β v
def Lh {α:Type}:List (Int×Option α)->Prop
 | []=>True
 | e::m=>(e.2=none->∀ e'∈m,e'.2≠none)/\Lh m
def iU (p:PH) (β:Nat->Value) (V:Ty) (c:AV):Option V.den->Value->Prop
 | some y,v=>fv V (V.holds p y) v
 | none,v=>c.one p β v
def LE.sat (p:PH) (β:Nat->Value) (w:World) (d:Nat):LE->Prop
 | .cells c=>∃ b cs t,β d=.pointer (some ⟨b,0,none⟩)/\w.heap[b]?=some (.cells cs t (0,0))/\c.cells p β cs.toList
 | .row e T xs=>∃ l,w.ownsRow 0 e T.size (β d) xs.length l/\aM (T.holds p) xs l/\xs.length * T.bytes<=aF
 | .froz T xs=>(Ty.arr T).holds p xs [β d]
 | .mapp k V m=>∃ r es clock,β d=.map (some r)/\w.heap[r]?=some (.map es clock)/\jz es clock/\cq k (fun x v=>fv V (V.holds p x) v) m es.toList
 | .frozm k V m=>(Ty.map k V).holds p m [β d]
 | .iter k V l cur=>∃ r bm since seen c0 es clock,β d=.pointer (some ⟨r,0,none⟩)/\w.heap[r]?=some (.mapIter (some bm) since seen c0)/\p bm=some (.map es clock)/\jz es clock/\(∀ e∈es.toList,e.born<since)/\since<=c0/\since<=clock /\
   cq k (fun x v=>fv V (V.holds p x) v) l (leftOf es seen).toList/\∀ x,cur=some x->∃ e∈es.toList,∃ s0:Array Nat,seen=s0.push e.born/\c0=clock/\e.key=.int k x.1/\am k x.1/\fv V (V.holds p x.2) e.val
 | .mapo k V m x c=>∃ r es clock,β d=.map (some r)/\w.heap[r]?=some (.map es clock)/\jz es clock/\(aC m x=some none/\Lh m)/\cq k (iU p β V c) m es.toList
 | .dead=>True
 | .frame tm env=>∀ s,(env s).val p β tm (tm.getD s undef)
structure St where
 env:Nat->AV
 lh:Nat->Option LE
 n:Nat
 lock:Nat->Bool
structure SatB (M:Nat->Prop) (p0:PH) (w0:World) (S:St) (tm:Array Value) (w:World) (p:PH) (β:Nat->Value):Prop where
 keep:Keep M w0 w
 agr:Agrees p w
 old:∀ b cs,p b=some cs->w0.heap.size<=b\/M b\/p0 b=some cs
 size:tm.size=S.n
 lhs:∀ d e,S.lh d=some e->e.sat p β w d
 owns:∀ d e b,S.lh d=some e->e.live=true->b8 (β d)=some b->(M b\/w0.heap.size<=b)/\p b=none
 inj:∀ d d' e e' b,S.lh d=some e->e.live=true->S.lh d'=some e'->e'.live=true->b8 (β d)=some b->b8 (β d')=some b->d=d'
 env:∀ s,(S.env s).val p β tm (tm.getD s undef)
def Sat (M:Nat->Prop) (p0:PH) (w0:World) (S:St) (tm:Array Value) (w:World):Prop:=∃ p β,SatB M p0 w0 S tm w p β
theorem AV.one_mono {p q:PH} (h:PH.le p q) {β:Nat->Value}:∀ (a:AV) (v:Value),a.one p β v->a.one q β v:=by
 intro a v ha;cases a <;> simp only [AV.one] at ha |- <;> try exact ha
 ·exact Ty.holds_mono h _ _ _ ha
 ·obtain ⟨b,o,es,e1,e2,e3⟩:=ha;exact ⟨b,o,es,e1,Ty.holds_mono h _ _ _ e2,fun j u hu=>h.cell (e3 j u hu)⟩
 ·exact Ty.holds_mono h _ _ _ ha
 ·exact Ty.holds_mono h _ _ _ ha
theorem AV.cells_mono {p q:PH} (h:PH.le p q) {β:Nat->Value}:∀ (a:AV) (cs:List Value),a.cells p β cs->a.cells q β cs
 | .pair _ _,[]=>fun h'=>h'.elim
 | .pair a b,v::cs=>fun h'=>⟨AV.one_mono h a v h'.1,AV.cells_mono h b cs h'.2⟩
 | .any,[v]=>AV.one_mono h _ v | .int ..,[v]=>AV.one_mono h _ v | .bool _,[v]=>AV.one_mono h _ v | .str _,[v]=>AV.one_mono h _ v | .nils,[v]=>AV.one_mono h _ v
 | .sl ..,[v]=>AV.one_mono h _ v | .own _,[v]=>AV.one_mono h _ v | .tup ..,[v]=>AV.one_mono h _ v | .tnil,[v]=>AV.one_mono h _ v | .loc ..,[v]=>AV.one_mono h _ v
 | .pt ..,[v]=>AV.one_mono h _ v | .el ..,[v]=>AV.one_mono h _ v | .fn ..,[v]=>AV.one_mono h _ v | .mp _,[v]=>AV.one_mono h _ v | .gd ..,[v]=>AV.one_mono h _ v | .bl ..,[v]=>AV.one_mono h _ v | .fd ..,[v]=>AV.one_mono h _ v | .osl ..,[v]=>AV.one_mono h _ v | .psl ..,[v]=>AV.one_mono h _ v | .md ..,[v]=>AV.one_mono h _ v | .nilm,[v]=>AV.one_mono h _ v | .nilf,[v]=>AV.one_mono h _ v
 | .any,[] | .int ..,[] | .bool _,[] | .str _,[] | .nils,[] | .sl ..,[] | .own _,[] | .tup ..,[] | .tnil,[] | .loc ..,[] | .pt ..,[] | .el ..,[] | .fn ..,[] | .mp _,[] | .gd ..,[] | .bl ..,[] | .fd ..,[] | .osl ..,[] | .psl ..,[] | .md ..,[] | .nilm,[] | .nilf,[]=>fun h'=>h'
 | .any,_::_::_ | .int ..,_::_::_ | .bool _,_::_::_ | .str _,_::_::_ | .nils,_::_::_ | .sl ..,_::_::_ | .own _,_::_::_ | .tup ..,_::_::_ | .tnil,_::_::_
 | .loc ..,_::_::_ | .pt ..,_::_::_ | .el ..,_::_::_ | .fn ..,_::_::_ | .mp _,_::_::_ | .gd ..,_::_::_ | .bl ..,_::_::_ | .fd ..,_::_::_ | .osl ..,_::_::_ | .psl ..,_::_::_ | .md ..,_::_::_ | .nilm,_::_::_ | .nilf,_::_::_=>fun h'=>h'
theorem AV.val1_mono {p q:PH} (h:PH.le p q) {β:Nat->Value} (a:AV) (v:Value) (ha:a.val1 p β v):a.val1 q β v:=by
 cases a <;> simp only [AV.val1] at ha |- <;> try exact AV.one_mono h _ v ha
 obtain ⟨cs,e,hc⟩:=ha;exact ⟨cs,e,AV.cells_mono h _ _ hc⟩
theorem AV.vals_mono {p q:PH} (h:PH.le p q) {β:Nat->Value}:∀ (a:AV) (vs:List Value),a.vals p β vs->a.vals q β vs
 | .tup a b,v::vs=>fun h'=>⟨AV.val1_mono h a v h'.1,AV.vals_mono h b vs h'.2⟩
 | .tup _ _,[]=>fun h'=>h'
 | .tnil,[]=>fun h'=>h'
 | .tnil,_::_=>fun h'=>h'
 | .any,_ | .int ..,_ | .bool _,_ | .str _,_ | .nils,_ | .sl ..,_ | .own _,_ | .pair ..,_ | .loc ..,_ | .pt ..,_ | .el ..,_ | .fn ..,_ | .mp _,_ | .gd ..,_ | .bl ..,_ | .fd ..,_ | .osl ..,_ | .psl ..,_ | .md ..,_ | .nilm,_ | .nilf,_=>fun h'=>by simp [AV.vals] at h'
theorem AV.val_mono {p q:PH} (h:PH.le p q) {β:Nat->Value} {tm:Array Value}:∀ (a:AV) (v:Value),a.val p β tm v->a.val q β tm v:=by
 intro a v ha
 induction a generalizing v with
 | gd g w a ih =>
  simp only [AV.val] at ha |-;rcases ha with ⟨e,ha⟩ | ha
  ·exact .inl ⟨e,ih v ha⟩
  ·exact .inr ha
 | tup a b =>
  simp only [AV.val] at ha |-;obtain ⟨vs,e,hv⟩:=ha;exact ⟨vs,e,AV.vals_mono h _ _ hv⟩
 | _=>simp only [AV.val] at ha |- <;> first | exact AV.val1_mono h _ v ha | exact ha
def AV.scrub (bad:Nat->Bool):AV->AV
 | .own d=>bif bad d then .any else .own d
 | .loc d off=>bif bad d then .any else .loc d off
 | .el d T i off=>bif bad d then .any else .el d T i off
 | .mp d=>bif bad d then .any else .mp d
 | .fn f c1 c2=>bif (c1.any fun x=>bad x.1)||(c2.any fun x=>bad x.1) then .any else .fn f c1 c2
 | .pair a b=>.pair (a.scrub bad) (b.scrub bad)
 | .tup a b=>.tup (a.scrub bad) (b.scrub bad)
 | .gd g w a=>.gd g w (a.scrub bad)
 | .any=>.any
 | .int k n=>.int k n
 | .bool b=>.bool b
 | .str s=>.str s
 | .nils=>.nils
 | .sl T xs=>.sl T xs
 | .tnil=>.tnil
 | .pt T x off=>.pt T x off
 | .bl t f=>.bl t f
 | .fd A B g=>.fd A B g
 | .osl d T i n=>bif bad d then .any else .osl d T i n
 | .psl d i n=>bif bad d then .any else .psl d i n
 | .md k V m=>.md k V m
 | .nilm=>.nilm
 | .nilf=>.nilf
def LE.scrub (bad:Nat->Bool):LE->LE
 | .cells c=>.cells (c.scrub bad)
 | .row e T xs=>.row e T xs
 | .froz T xs=>.froz T xs
 | .mapp k V m=>.mapp k V m
 | .frozm k V m=>.frozm k V m
 | .iter k V l c=>.iter k V l c
 | .mapo k V m x c=>.mapo k V m x (c.scrub bad)
 | .dead=>.dead
 | .frame tm env=>.frame tm (fun s=>(env s).scrub bad)
theorem jP {bad:Nat->Bool} {β β':Nat->Value} (h:∀ d,bad d=false->β' d=β d):∀ (c:List (Nat×Nat)) (vs:List Value),(c.any fun x=>bad x.1)=false->ij β c vs->ij β' c vs
 | [],_,_,h'=>h'
 | (d,off)::c,_,hb,⟨b,rest,e,hd,hr⟩=>by
  simp only [Q4,QG] at hb;exact ⟨b,rest,e,(h d hb.1).trans hd,jP h c rest hb.2 hr⟩
theorem AV.one_scrub {p:PH} {bad:Nat->Bool} {β β':Nat->Value} (h:∀ d,bad d=false->β' d=β d) (a:AV) (v:Value) (ha:a.one p β v):(a.scrub bad).one p β' v:=by
 cases a <;> simp only [AV.scrub] <;> try (simp only [AV.one] at ha |- <;> exact ha)
 case own d=>cases hb:bad d <;> simp only [PZ,PF,AV.one] at ha |-; exact ha.trans (h d hb).symm
 case loc d off=>cases hb:bad d <;> simp only [PZ,PF,AV.one] at ha |-; obtain ⟨b,e,e2⟩:=ha; exact ⟨b,(h d hb).trans e,e2⟩
 case el d T i off=>cases hb:bad d <;> simp only [PZ,PF,AV.one] at ha |-; obtain ⟨b,e,e2⟩:=ha; exact ⟨b,by rw [h d hb]; exact e,e2⟩
 case psl d i n =>
  cases hb:bad d <;> simp only [PZ,PF,AV.one] at ha |-;rcases ha with ⟨b,c,e,e2⟩ | ha
  ·exact .inl ⟨b,c,(h d hb).trans e,e2⟩
  ·exact .inr ha
 case osl d T i n =>
  cases hb:bad d <;> simp only [PZ,PF,AV.one] at ha |-;rcases ha with ⟨b,m,c,c',e,e2⟩ | ha
  ·exact .inl ⟨b,m,c,c',(h d hb).trans e,e2⟩
  ·exact .inr ha
 case mp d=>cases hb:bad d <;> simp only [PZ,PF,AV.one] at ha |-; exact ha.trans (h d hb).symm
 case fn f c1 c2 =>
  cases hb:(c1.any fun x=>bad x.1)||(c2.any fun x=>bad x.1) <;> simp only [PZ,PF,AV.one] at ha |-;simp only [QG] at hb;obtain ⟨v1,v2,e,h1,h2⟩:=ha;exact ⟨v1,v2,e,jP h _ _ hb.1 h1,jP h _ _ hb.2 h2⟩
theorem AV.cells_leaf {p:PH} {β:Nat->Value} (a:AV) (hp:∀ x y,a≠.pair x y) (cs:List Value):a.cells p β cs ↔ ∃ v,cs=[v]/\a.one p β v:=by
 constructor
 ·intro h;cases a <;> (first | exact absurd rfl (hp _ _) | skip) <;> (match cs,h with | [v],h=>exact ⟨v,rfl,h⟩)
 ·rintro ⟨v,rfl,h⟩;cases a <;> (first | exact absurd rfl (hp _ _) | exact h)
theorem AV.scrub_pair {bad:Nat->Bool} (a:AV) (hp:∀ x y,a≠.pair x y):∀ x y,a.scrub bad≠.pair x y:=by
 intro x y e;cases a <;> simp only [AV.scrub] at e <;> first | (exact absurd rfl (hp _ _)) | cases e | (revert e; cases bad _ <;> intro e <;> cases e) | (revert e; cases (_||_) <;> intro e <;> cases e)
theorem AV.cells_scrub {p:PH} {bad:Nat->Bool} {β β':Nat->Value} (h:∀ d,bad d=false->β' d=β d):∀ (a:AV) (cs:List Value),a.cells p β cs->(a.scrub bad).cells p β' cs:=by
 intro a
 induction a with
 | pair a b _ ih2 =>
  intro cs hc
  match cs,hc with
  | v::cs,hc=>exact ⟨AV.one_scrub h a v hc.1,ih2 cs hc.2⟩
 | _ =>
  intro cs hc;obtain ⟨v,e,hv⟩:=(AV.cells_leaf _ (by intro x y e; cases e) cs).1 hc;exact (AV.cells_leaf _ (AV.scrub_pair _ (by intro x y e; cases e)) cs).2 ⟨v,e,AV.one_scrub h _ v hv⟩
theorem AV.val1_leaf {p:PH} {β:Nat->Value} (a:AV) (hp:∀ x y,a≠.pair x y) (v:Value):a.val1 p β v ↔ a.one p β v:=by
 cases a <;> (first | exact absurd rfl (hp _ _) | exact Iff.rfl)
theorem AV.val1_scrub {p:PH} {bad:Nat->Bool} {β β':Nat->Value} (h:∀ d,bad d=false->β' d=β d) (a:AV) (v:Value) (ha:a.val1 p β v):(a.scrub bad).val1 p β' v:=by
 by_cases hp:∀ x y,a≠.pair x y
 ·exact (AV.val1_leaf _ (AV.scrub_pair a hp) v).2 (AV.one_scrub h a v ((AV.val1_leaf a hp v).1 ha))
 ·cases a <;> (first | (exfalso; apply hp; intro x y e; cases e; done) | skip);obtain ⟨cs,e,hc⟩:=ha;exact ⟨cs,e,AV.cells_scrub h _ _ hc⟩
theorem AV.vals_scrub {p:PH} {bad:Nat->Bool} {β β':Nat->Value} (h:∀ d,bad d=false->β' d=β d):∀ (a:AV) (vs:List Value),a.vals p β vs->(a.scrub bad).vals p β' vs:=by
 intro a
 induction a with
 | tup a b _ ih2 =>
  intro vs hv
  match vs,hv with
  | v::vs,hv=>exact ⟨AV.val1_scrub h a v hv.1,ih2 vs hv.2⟩
 | tnil=>intro vs hv; cases vs <;> exact hv
 | _=>intro vs hv; simp [AV.vals] at hv
theorem AV.val_scrub {p:PH} {bad:Nat->Bool} {β β':Nat->Value} {tm:Array Value} (h:∀ d,bad d=false->β' d=β d):∀ (a:AV) (v:Value),a.val p β tm v->(a.scrub bad).val p β' tm v:=by
 intro a
 induction a with
 | gd g w a ih =>
  intro v ha;rcases ha with ⟨e,ha⟩ | ha
  ·exact .inl ⟨e,ih v ha⟩
  ·exact .inr ha
 | tup a b =>
  intro v ha;obtain ⟨vs,e,hv⟩:=ha;exact ⟨vs,e,AV.vals_scrub h _ _ hv⟩
 | tnil=>intro v ha; exact ha
 | pair a b=>intro v ha; exact AV.val1_scrub h _ v ha
 | _ =>
  intro v ha;have hs:=AV.val1_scrub h _ v ha;simp only [AV.scrub] at hs |-
  first
   | exact hs
   | (revert hs; cases bad _ <;> exact fun hs=>hs)
   | (revert hs; cases (_||_) <;> exact fun hs=>hs)
theorem LE.sat_scrub {p:PH} {bad:Nat->Bool} {β β':Nat->Value} {w:World} (h:∀ d,bad d=false->β' d=β d) (d:Nat) (hd:bad d=false) (e:LE) (he:e.sat p β w d):(e.scrub bad).sat p β' w d:=by
 cases e with
 | cells c=>obtain ⟨b,cs,t,e1,e2,e3⟩:=he; exact ⟨b,cs,t,(h d hd).trans e1,e2,AV.cells_scrub h _ _ e3⟩
 | row e T xs=>simpa only [LE.scrub,LE.sat,h d hd] using he
 | froz T xs=>simpa only [LE.scrub,LE.sat,h d hd] using he
 | mapp k V m=>simpa only [LE.scrub,LE.sat,h d hd] using he
 | frozm k V m=>simpa only [LE.scrub,LE.sat,h d hd] using he
 | iter k V l c=>simpa only [LE.scrub,LE.sat,h d hd] using he
 | mapo k V m x c =>
  obtain ⟨r,es,clock,e1,e2,e3,e4,e5⟩:=he;refine ⟨r,es,clock,(h d hd).trans e1,e2,e3,e4,cf (fun o v hv=>?_) _ _ e5⟩;cases o with
  | some y=>exact hv
  | none=>exact AV.one_scrub h c v hv
 | dead=>trivial
 | frame tm env=>exact fun s=>AV.val_scrub h _ _ (he s)
def AV.killG (d:Nat):AV->AV
 | .gd g w a=>bif Nat.beq g d then .any else .gd g w (a.killG d)
 | a=>a
theorem AV.val_killG {p:PH} {β:Nat->Value} {tm:Array Value} {d:Nat} {x:Value}:∀ (a:AV) (v:Value),a.val p β tm v->(a.killG d).val p β (tm.setIfInBounds d x) v:=by
 intro a
 induction a with
 | gd g w a ih =>
  intro v ha;simp only [AV.killG];cases hb:Nat.beq g d
  ·have hne:d≠g:=by intro e; subst e; simp at hb
   have e:(tm.setIfInBounds d x).getD g undef=tm.getD g undef:=by simp [Array.getElem?_setIfInBounds_ne hne]
   simp only [PF,AV.val,e];rcases ha with ⟨e,ha⟩ | ha
   ·exact .inl ⟨e,ih v ha⟩
   ·exact .inr ha
  ·trivial
 | _=>intro v ha; exact ha
def St.set (S:St) (d:Nat) (a:AV):St:={ S with env:=fun s=>bif Nat.beq s d then a else (S.env s).killG d }
theorem dO {tm:Array Value} {d s:Nat} {x:Value} (h:s≠d):(tm.setIfInBounds d x).getD s undef=tm.getD s undef:=by
 simp [Array.getElem?_setIfInBounds_ne (Ne.symm h)]
theorem mc {tm:Array Value} {d:Nat} {x:Value} (h:d<tm.size):(tm.setIfInBounds d x).getD d undef=x:=by
 simp [h]
section
variable {M:Nat->Prop} {p0:PH} {w0:World} {S:St} {tm:Array Value} {w:World} {p:PH} {β:Nat->Value}
theorem SatB.set (h:SatB M p0 w0 S tm w p β) {d:Nat} {x:Value} {a:AV} (hd:d<S.n) (ha:a.val p β (tm.setIfInBounds d x) x):SatB M p0 w0 (S.set d a) (tm.setIfInBounds d x) w p β where
 keep:=h.keep
 agr:=h.agr
 old:=h.old
 size:=by simpa [St.set] using h.size
 lhs:=h.lhs
 owns:=h.owns
 inj:=h.inj
 env:=by
  intro s;by_cases e:s=d
  ·subst e;rw [mc (by rw [h.size]; exact hd)];simpa [St.set] using ha
  ·rw [dO e]
   have hb:Nat.beq s d=false:=by
    cases hb:Nat.beq s d
    ·rfl
    ·exact absurd (Pw hb) e
   simp only [St.set,hb,PF];exact AV.val_killG _ _ (h.env s)
theorem zN {w w':World} {base:Nat} {e:TypeId} {size n:Nat} {v:Value} {l:List Value} (h:w.ownsRow base e size v n l) (hb:∀ b,b8 v=some b->w'.heap[b]?=w.heap[b]?):w'.ownsRow base e size v n l:=by
 refine ⟨h.1,?_⟩;rcases h.2 with h | ⟨g,cap,cur,rfl,h1,h2,h3⟩
 ·exact .inl h
 ·exact .inr ⟨g,cap,cur,rfl,h1,(hb g rfl).trans h2,h3⟩
theorem LE.sat_world {w':World} (d:Nat) (e:LE) (he:e.sat p β w d) (hb:∀ b,e.live=true->b8 (β d)=some b->w'.heap[b]?=w.heap[b]?):e.sat p β w' d:=by
 cases e with
 | cells c=>obtain ⟨b,cs,t,e1,e2,e3⟩:=he; exact ⟨b,cs,t,e1,(hb b rfl (by rw [e1]; rfl)).trans e2,e3⟩
 | row e T xs=>obtain ⟨l,h1,h2,h3⟩:=he; exact ⟨l,zN h1 (fun b hbb=>hb b rfl hbb),h2,h3⟩
 | froz T xs=>exact he
 | mapp k V m=>obtain ⟨r,es,clock,e1,e2,e3⟩:=he; exact ⟨r,es,clock,e1,(hb r rfl (by rw [e1]; rfl)).trans e2,e3⟩
 | frozm k V m=>exact he
 | mapo k V m x c=>obtain ⟨r,es,clock,e1,e2,e3⟩:=he; exact ⟨r,es,clock,e1,(hb r rfl (by rw [e1]; rfl)).trans e2,e3⟩
 | iter k V l c=>obtain ⟨r,bm,since,seen,c0,es,clock,e1,e2,e3⟩:=he; exact ⟨r,bm,since,seen,c0,es,clock,e1,(hb r rfl (by rw [e1]; rfl)).trans e2,e3⟩
 | dead=>trivial
 | frame tm env=>exact he
theorem LE.sat_lt (d:Nat) (e:LE) (hl:e.live=true) (he:e.sat p β w d) {b:Nat} (hb:b8 (β d)=some b):b<w.heap.size:=by
 cases e with
 | cells c =>
  obtain ⟨b',cs,t,e1,e2,e3⟩:=he;rw [e1] at hb;injection hb with hb
  subst hb;exact (Array.getElem?_eq_some_iff.1 e2).1
 | row e T xs =>
  obtain ⟨l,h1,h2,h3⟩:=he;rcases h1.2 with ⟨e1,_⟩ | ⟨g,cap,cur,e1,_,h5,_⟩
  ·rw [e1] at hb; cases hb
  ·rw [e1] at hb;injection hb with hb
   subst hb;exact (Array.getElem?_eq_some_iff.1 h5).1
 | mapp k V m =>
  obtain ⟨r,es,clock,e1,e2,_⟩:=he;rw [e1] at hb;injection hb with hb
  subst hb;exact (Array.getElem?_eq_some_iff.1 e2).1
 | mapo k V m x c =>
  obtain ⟨r,es,clock,e1,e2,_⟩:=he;rw [e1] at hb;injection hb with hb
  subst hb;exact (Array.getElem?_eq_some_iff.1 e2).1
 | iter k V l c =>
  obtain ⟨r,bm,since,seen,c0,es,clock,e1,e2,_⟩:=he;rw [e1] at hb;injection hb with hb
  subst hb;exact (Array.getElem?_eq_some_iff.1 e2).1
 | froz T xs=>cases hl
 | frozm k V m=>cases hl
 | dead=>cases hl
 | frame tm env=>cases hl
theorem Agrees.lt (h:Agrees p w) {b:Nat} {cs:Blk} (hb:p b=some cs):b<w.heap.size:=by
 have h1:=h b cs hb;cases cs with
 | cells cs=>obtain ⟨t,fz,e⟩:=h1; exact (Array.getElem?_eq_some_iff.1 e).1
 | map es c=>exact (Array.getElem?_eq_some_iff.1 (show w.heap[b]?=some (.map es c) from h1)).1
theorem Keep.trans_grow {w':World} (h:Keep M w0 w) (ho:w'.os=w.os) (ht:w'.tape=w.tape) (hp:w'.output=w.output) (hs:w.heap.size<=w'.heap.size)
  (hb:∀ b,b<w.heap.size->¬ M b->b<w0.heap.size->w'.heap[b]?=w.heap[b]?):Keep M w0 w' :=
 ⟨ho.trans h.os,ht.trans h.tape,hp.trans h.output,P9 h.size hs,fun i hi hm=>(hb i (Qz hi h.size) hm hi).trans (h.block i hi hm)⟩
theorem SatB.grow (h:SatB M p0 w0 S tm w p β) {w':World} (ho:w'.os=w.os) (ht:w'.tape=w.tape) (hp:w'.output=w.output) (hs:w.heap.size<=w'.heap.size)
  (hb:∀ b,b<w.heap.size->w'.heap[b]?=w.heap[b]?):SatB M p0 w0 S tm w' p β where
 keep:=h.keep.trans_grow ho ht hp hs (fun b hb' _ _=>hb b hb')
 agr:=fun b cs hbc=>by rw [hb b (h.agr.lt hbc)]; exact h.agr b cs hbc
 old:=h.old
 size:=h.size
 lhs:=fun d e he=>LE.sat_world d e (h.lhs d e he) (fun b hl hbb=>hb b (LE.sat_lt d e hl (h.lhs d e he) hbb))
 owns:=h.owns
 inj:=h.inj
 env:=h.env
theorem SatB.more (h:SatB M p0 w0 S tm w p β) {q:PH} (hpq:PH.le p q) (hq:Agrees q w) (hold:∀ b cs,q b=some cs->p b=some cs\/w0.heap.size<=b\/M b) (hown:∀ d e b,S.lh d=some e->e.live=true->b8 (β d)=some b->q b=none):SatB M p0 w0 S tm w q β where
 keep:=h.keep
 agr:=hq
 old:=fun b cs hb=>by
  rcases hold b cs hb with h1 | h1
  ·exact h.old b cs h1
  ·exact h1.imp id .inl
 size:=h.size
 lhs:=fun d e he=>by
  have:=h.lhs d e he;cases e with
  | cells c=>obtain ⟨b,cs,t,e1,e2,e3⟩:=this; exact ⟨b,cs,t,e1,e2,AV.cells_mono hpq _ _ e3⟩
  | row e T xs=>obtain ⟨l,h1,h2,h3⟩:=this; exact ⟨l,h1,dx (fun x cs=>Ty.holds_mono hpq T x cs) _ _ h2,h3⟩
  | froz T xs=>exact Ty.holds_mono hpq _ _ _ this
  | mapp k V m=>obtain ⟨r,es,clock,e1,e2,e3,e4⟩:=this; exact ⟨r,es,clock,e1,e2,e3,cf (fun x _=>dH (fun cs=>Ty.holds_mono hpq V x cs)) _ _ e4⟩
  | frozm k V m=>exact Ty.holds_mono hpq _ _ _ this
  | mapo k V m x c =>
   obtain ⟨r,es,clock,e1,e2,e3,e4,e5⟩:=this;refine ⟨r,es,clock,e1,e2,e3,e4,cf (fun o v hv=>?_) _ _ e5⟩;cases o with
   | some y=>exact dH (fun cs=>Ty.holds_mono hpq V y cs) hv
   | none=>exact AV.one_mono hpq c v hv
  | iter k V l c =>
   obtain ⟨r,bm,since,seen,c0,es,clock,e1,e2,e3,e4,e5,e6,e7,e8,e9⟩:=this
   exact ⟨r,bm,since,seen,c0,es,clock,e1,e2,hpq _ _ e3,e4,e5,e6,e7,cf (fun x _=>dH (fun cs=>Ty.holds_mono hpq V x cs)) _ _ e8,fun x hx=>by
    obtain ⟨e,he,s0,f1,f2,f3,f4,f5⟩:=e9 x hx;exact ⟨e,he,s0,f1,f2,f3,f4,dH (fun cs=>Ty.holds_mono hpq V _ cs) f5⟩⟩
  | dead=>trivial
  | frame tm env=>exact fun s=>AV.val_mono hpq _ _ (this s)
 owns:=fun d e b he hl hb=>⟨(h.owns d e b he hl hb).1,hown d e b he hl hb⟩
 inj:=h.inj
 env:=fun s=>AV.val_mono hpq _ _ (h.env s)
def St.scrub (S:St) (bad:Nat->Bool):St :=
 { S with env:=fun s=>(S.env s).scrub bad,lh:=fun d=>bif bad d then none else (S.lh d).map (LE.scrub bad) }
theorem LE.scrub_live (bad:Nat->Bool) (e:LE):(e.scrub bad).live=e.live:=by cases e <;> rfl
theorem SatB.scrub (h:SatB M p0 w0 S tm w p β) {bad:Nat->Bool} {β':Nat->Value} (hβ:∀ d,bad d=false->β' d=β d):SatB M p0 w0 (S.scrub bad) tm w p β':=by
 have key:∀ d e,(S.scrub bad).lh d=some e->bad d=false/\∃ e0,S.lh d=some e0/\e=e0.scrub bad:=by
  intro d e he;simp only [St.scrub] at he;cases hb:bad d
  ·rw [hb] at he;simp only [PF,Py] at he;obtain ⟨e0,h1,h2⟩:=he;exact ⟨rfl,e0,h1,h2.symm⟩
  ·rw [hb] at he; cases he
 refine ⟨h.keep,h.agr,h.old,h.size,?_,?_,?_,fun s=>AV.val_scrub hβ _ _ (h.env s)⟩
 ·intro d e he;obtain ⟨hb,e0,h1,rfl⟩:=key d e he;exact LE.sat_scrub hβ d hb e0 (h.lhs d e0 h1)
 ·intro d e b he hl hbb;obtain ⟨hb,e0,h1,rfl⟩:=key d e he;rw [LE.scrub_live] at hl;rw [hβ d hb] at hbb;exact h.owns d e0 b h1 hl hbb
 ·intro d d' e e' b he hl he' hl' hbb hbb';obtain ⟨hb,e0,h1,rfl⟩:=key d e he;obtain ⟨hb',e0',h1',rfl⟩:=key d' e' he';rw [LE.scrub_live] at hl hl';rw [hβ d hb] at hbb;rw [hβ d' hb'] at hbb';exact h.inj d d' e0 e0' b h1 hl h1' hl' hbb hbb'
def St.entry (S:St) (d:Nat) (e:LE):St:={ S with lh:=fun x=>bif Nat.beq x d then some e else S.lh x }
theorem cg {a b:Nat} (h:a≠b):Nat.beq a b=false:=by
 cases hb:Nat.beq a b
 ·rfl
 ·exact absurd (Pw hb) h
theorem eu (a:Nat):Nat.beq a a=true:=by simp
theorem SatB.entry (h:SatB M p0 w0 S tm w p β) {d:Nat} {e:LE} (hs:e.sat p β w d)
  (ho:∀ b,e.live=true->b8 (β d)=some b->(M b\/w0.heap.size<=b)/\p b=none)
  (hi:∀ d' e' b,d'≠d->e.live=true->S.lh d'=some e'->e'.live=true->b8 (β d)=some b->b8 (β d')≠some b):SatB M p0 w0 (S.entry d e) tm w p β:=by
 refine ⟨h.keep,h.agr,h.old,h.size,?_,?_,?_,h.env⟩
 ·intro x e' he;by_cases hx:x=d
  ·subst hx;simp only [St.entry,eu,PZ,Ps] at he;subst he; exact hs
  ·simp only [St.entry,cg hx,PF] at he;exact h.lhs x e' he
 ·intro x e' b he hl hb;by_cases hx:x=d
  ·subst hx;simp only [St.entry,eu,PZ,Ps] at he;subst he; exact ho b hl hb
  ·simp only [St.entry,cg hx,PF] at he;exact h.owns x e' b he hl hb
 ·intro x x' e1 e2 b he hl he' hl' hb hb';by_cases hx:x=d <;> by_cases hx':x'=d
  ·rw [hx,hx']
  ·subst hx;simp only [St.entry,eu,PZ,Ps] at he;simp only [St.entry,cg hx',PF] at he';subst he;exact absurd hb' (hi x' e2 b hx' hl he' hl' hb)
  ·subst hx';simp only [St.entry,eu,PZ,Ps] at he';simp only [St.entry,cg hx,PF] at he;subst he';exact absurd hb (hi x e1 b hx hl' he hl hb')
  ·simp only [St.entry,cg hx,PF] at he;simp only [St.entry,cg hx',PF] at he';exact h.inj x x' e1 e2 b he hl he' hl' hb hb'
def St.fresh (S:St) (d:Nat) (e:LE):St:=(S.scrub (fun x=>Nat.beq x d)).entry d e
theorem SatB.fresh (h:SatB M p0 w0 S tm w p β) {d:Nat} {e:LE} {v:Value}
  (hs:e.sat p (fun x=>if x=d then v else β x) w d)
  (ho:∀ b,e.live=true->b8 v=some b->(M b\/w0.heap.size<=b)/\p b=none)
  (hi:∀ d' e' b,d'≠d->e.live=true->S.lh d'=some e'->e'.live=true->b8 v=some b->b8 (β d')≠some b):SatB M p0 w0 (S.fresh d e) tm w p (fun x=>if x=d then v else β x):=by
 have h1:SatB M p0 w0 (S.scrub (fun x=>Nat.beq x d)) tm w p (fun x=>if x=d then v else β x):=h.scrub (fun x hx=>by
  have:x≠d:=by intro e; subst e; simp at hx
  simp [this])
 refine h1.entry hs (fun b hl hb=>ho b hl (by simpa using hb)) ?_;intro d' e' b hne hl he hl' hb hb';have hx:Nat.beq d' d=false:=cg hne;simp only [St.scrub,hx,PF,Py] at he;obtain ⟨e0,h2,rfl⟩:=he;rw [LE.scrub_live] at hl';simp only [hne,P5] at hb';exact hi d' e0 b hne hl h2 hl' (by simpa using hb) hb'
end
abbrev td:=Option (List Prop×AV)
def OI (g:TypeId->Option Ty):List Field->Option Ty
 | []=>none
 | [f]=>g f.type
 | f::f2::fs=>match g f.type,OI g (f2::fs) with
  | some A,some B=>some (.pair A B)
  | _,_=>none
def wc (P:Program):Nat->TypeId->Option Ty
 | 0,_=>none
 | n+1,t=>match P.underlying t with
  | some (.int k)=>some (.int k)
  | some .bool=>some .bool
  | some .string=>some .str
  | some (.slice e)=>(wc P n e).map .arr
  | some (.struct fs)=>OI (wc P n) fs.toList
  | some (.map kt e)=>match P.underlying kt with
   | some (.int k)=>(wc P n e).map (.map k)
   | _=>none
  | _=>none
def lI (k:IntKind) (n:Int):List Prop:=if k.signed then [0<=n] else []
def pY (op:BinOp) (k:IntKind) (a b:Int):td :=
 match op with
 | .shl=>some ([0<=b,b<(k.bits:Int)],.int k (k.wrap (a * 2 ^ b.toNat)))
 | .shr=>some (lI k a++[0<=b,b<(k.bits:Int)],.int k (a / 2 ^ b.toNat))
 | _=>none
def FL (P:Program) (t:TypeId):Bool:=match P.underlying t with | some .bool=>true | _=>false
theorem Je {P:Program} {t:TypeId} (h:FL P t=true):P.underlying t=some .bool:=by
 unfold FL at h; split at h
 ·assumption
 ·cases h
def LN (P:Program) (t:TypeId) (op:BinOp) (x y:AV):td :=
 match x,y with
 | .int k a,.int k' b =>
  if k=k' then
   match op with
   | .add=>some ([am k (a+b)],.int k (a+b))
   | .sub=>some ([am k (a - b)],.int k (a - b))
   | .mul=>some ([am k (a * b)],.int k (a * b))
   | .quo=>some ([0<=a,0<b],.int k (a / b))
   | .rem=>some ([0<=a,0<b],.int k (a % b))
   | .eql=>some ([],.bool (decide (a=b)))
   | .neq=>some ([],.bool (decide (a≠b)))
   | .lss=>some ([],.bool (decide (a<b)))
   | .leq=>some ([],.bool (decide (a<=b)))
   | .gtr=>some ([],.bool (decide (b<a)))
   | .geq=>some ([],.bool (decide (b<=a)))
   | .and=>some (lI k a++lI k b,.int k ((a.toNat &&& b.toNat:Nat):Int))
   | .or=>some (lI k a++lI k b,.int k ((a.toNat ||| b.toNat:Nat):Int))
   | .xor=>some (lI k a++lI k b,.int k ((a.toNat ^^^ b.toNat:Nat):Int))
   | .shl=>pY op k a b
   | .shr=>pY op k a b
   | _=>none
  else pY op k a b
 | .bool a,.bool b =>
  if FL P t=true then
   match op with
   | .eql=>some ([],.bool (a == b))
   | .neq=>some ([],.bool (!(a == b)))
   | _=>none
  else none
 | .str a,.str b =>
  match op with
  | .eql=>some ([],.bool (decide (a=b)))
  | .neq=>some ([],.bool (decide (a≠b)))
  | .add=>some ([a.length+b.length<=aF],.str (a++b))
  | _=>none
 | _,_=>none
section
variable {P:Program} {w:World} {p:PH} {β:Nat->Value} {tm:Array Value}
theorem ca {k:IntKind} {n:Int} {v:Value} (h:(AV.int k n).val p β tm v):v=.int k n/\am k n:=h
theorem kX {b:Bool} {v:Value} (h:(AV.bool b).val p β tm v):v=.bool b:=h
theorem kc {s:List UInt8} {v:Value} (h:(AV.str s).val p β tm v):v=.string ⟨s.toArray⟩/\s.length<=aF:=h
def cz (P:Program) (s:Sem Value) (w:World) (p:PH) (β:Nat->Value) (tm:Array Value) (a:AV):Prop:=∃ v,s.run P w=.ok v w/\a.val p β tm v
theorem tz {k:IntKind} {a b:Int} (ha:am k a) (h0:0<=a) (hb:0<b):am k (a / b):=by
 have h1:a / b<=a:=Int.ediv_le_self b h0;have h2:0<=a / b:=Int.ediv_nonneg h0 (by omega);cases k <;> simp only [am] at ha |- <;> omega
theorem Ke {k:IntKind} {a b:Int} (ha:am k a) (h0:0<=a) (hb:0<b):am k (a % b):=by
 have h1:a % b<=a:=by
  have:=Int.emod_add_mul_ediv a b;have h2:0<=b * (a / b):=Int.mul_nonneg (by omega) (Int.ediv_nonneg h0 (by omega));omega
 have h2:0<=a % b:=Int.emod_nonneg a (by omega);cases k <;> simp only [am] at ha |- <;> omega
theorem MG {a b:List UInt8}:((⟨a.toArray⟩:ByteArray)=⟨b.toArray⟩) ↔ a=b:=by
 constructor
 ·intro h; injection h with h; injection h
 ·rintro rfl; rfl
theorem ix {k:IntKind} {n:Int} (h:am k n) (hs:∀ q∈lI k n,q):0<=n:=by
 cases hk:k.signed
 ·cases k <;> simp only [am] at h <;> first | omega | (cases hk; done)
 ·exact hs _ (by simp [lI,hk])
theorem gU {k:IntKind} {n:Int} (h:am k n) (h0:0<=n):(BitVec.ofInt k.bits n).toNat=n.toNat:=by
 obtain ⟨m,rfl⟩:=QK h0;rw [BitVec.ofInt_natCast,BitVec.toNat_ofNat,QC];apply Nat.mod_eq_of_lt;cases k <;> simp only [am,IntKind.bits] at h |- <;> omega
def J8 (k:IntKind):Nat:=if k.signed then k.bits - 1 else k.bits
theorem G5 {k:IntKind} {m:Nat}:am k (m:Int) ↔ m<2 ^ J8 k:=by
 cases k <;> simp only [am,J8,IntKind.signed,IntKind.bits,if_true,PG,P5,Nat.reduceSub,Nat.reducePow] <;> omega
theorem toNat_lt {k:IntKind} {n:Int} (h:am k n) (h0:0<=n):n.toNat<2 ^ J8 k:=by
 apply G5.1
 rwa [Rw h0]
theorem tN {op:BinOp} {k:IntKind} {a b:Int} {r:Nat} (ha:am k a) (hb:am k b) (h0:0<=a) (h1:0<=b)
  (h:(op=.and/\r=a.toNat &&& b.toNat)\/(op=.or/\r=a.toNat ||| b.toNat)\/(op=.xor/\r=a.toNat ^^^ b.toNat)) :
  (Op.intBits op k a b).run P w=.ok (.int k (r:Int)) w/\am k (r:Int):=by
 have la:=toNat_lt ha h0;have lb:=toNat_lt hb h1
 have hr:am k (r:Int):=by
  apply G5.2;rcases h with ⟨_,rfl⟩ | ⟨_,rfl⟩ | ⟨_,rfl⟩
  ·exact Nat.and_lt_two_pow _ lb
  ·exact Nat.or_lt_two_pow la lb
  ·exact Nat.xor_lt_two_pow la lb
 refine ⟨?_,hr⟩;have hw:=dz hr;rcases h with ⟨rfl,rfl⟩ | ⟨rfl,rfl⟩ | ⟨rfl,rfl⟩
 ·simp only [Op.intBits,P2,BitVec.toNat_and,gU ha h0,gU hb h1,hw]
 ·simp only [Op.intBits,P2,BitVec.toNat_or,gU ha h0,gU hb h1,hw]
 ·simp only [Op.intBits,P2,BitVec.toNat_xor,gU ha h0,gU hb h1,hw]
theorem kQ {op:BinOp} {t:TypeId} {ox oy:Operand} {k k':IntKind} {a b:Int} {ps:List Prop} {r:AV} (h:pY op k a b=some (ps,r)) (hps:∀ q∈ps,q)
  (ha:am k a):cz P (do eqGuard op t ox oy (.int k a) (.int k' b); binOp op t (.int k a) (.int k' b)) w p β tm r:=by
 unfold pY at h;split at h <;> simp only [Ps,Pv,reduceCtorEq] at h <;> obtain ⟨rfl,rfl⟩:=h
 ·have h1:0<=b:=hps _ (by simp);have h2:b<(k.bits:Int):=hps _ (by simp);have e:min b.toNat k.bits=b.toNat:=by omega
  refine ⟨_,?_,rfl,pQ _ _⟩;simp only [eqGuard,binOp,Op.shift,if_neg (show ¬ b<0 by omega),e];rfl
 ·have h1:0<=b:=hps _ (by simp);have h2:b<(k.bits:Int):=hps _ (by simp);have h0:0<=a:=ix ha (fun q hq=>hps q (PE _ hq));have e:min b.toNat k.bits=b.toNat:=by omega
  have hp:(0:Int)<2 ^ b.toNat:=Int.pow_pos (by omega);refine ⟨_,?_,rfl,tz ha h0 hp⟩;have e2:a.fdiv (2 ^ b.toNat)=a / 2 ^ b.toNat:=Int.fdiv_eq_ediv_of_nonneg _ (Int.le_of_lt hp);simp only [eqGuard,binOp,Op.shift,if_neg (show ¬ b<0 by omega),e,e2];rfl
theorem Dw {op:BinOp} {t:TypeId} {ox oy:Operand} {x y:AV} {vx vy:Value} {ps:List Prop} {r:AV} (h:LN P t op x y=some (ps,r)) (hps:∀ q∈ps,q)
  (hx:x.val p β tm vx) (hy:y.val p β tm vy) :
  cz P (do eqGuard op t ox oy vx vy; binOp op t vx vy) w p β tm r:=by
 unfold LN at h;split at h
 ·rename_i k a k' b;obtain ⟨rfl,ha⟩:=ca hx;obtain ⟨rfl,hb⟩:=ca hy;split at h
  ·rename_i hk;subst hk;split at h
   case h_15=>exact kQ h hps ha
   case h_16=>exact kQ h hps ha
   case h_17=>cases h
   all_goals simp only [Ps,Pv] at h
   all_goals obtain ⟨rfl,rfl⟩:=h
   ·have h1:=hps _ (PV); exact ⟨_,by simp [eqGuard,binOp,Op.intArith,go_sem]; rfl,by rw [dz h1]; exact ⟨rfl,h1⟩⟩
   ·have h1:=hps _ (PV); exact ⟨_,by simp [eqGuard,binOp,Op.intArith,go_sem]; rfl,by rw [dz h1]; exact ⟨rfl,h1⟩⟩
   ·have h1:=hps _ (PV); exact ⟨_,by simp [eqGuard,binOp,Op.intArith,go_sem]; rfl,by rw [dz h1]; exact ⟨rfl,h1⟩⟩
   ·have h1:=hps _ (PV);have h2:=hps (0<b) (by simp);have h3:b≠0:=by omega
    refine ⟨.int k (a / b),?_,rfl,tz ha h1 h2⟩;simp [eqGuard,binOp,Op.intDiv,go_sem,h3];rw [Int.tdiv_eq_ediv_of_nonneg h1,dz (tz ha h1 h2)]
   ·have h1:=hps _ (PV);have h2:=hps (0<b) (by simp);have h3:b≠0:=by omega
    refine ⟨.int k (a % b),?_,rfl,Ke ha h1 h2⟩;simp [eqGuard,binOp,Op.intDiv,go_sem,h3];rw [Int.tmod_eq_emod_of_nonneg h1]
   iterate 6
    refine ⟨_,by simp [eqGuard,binOp,Op.intCmp,go_sem]; rfl,?_⟩
    first
     | rfl
     | (show Value.bool _=Value.bool _; congr 1; rw [RO]; simp)
   ·have h0:=ix ha (fun q hq=>hps q (PE _ hq));have h1:=ix hb (fun q hq=>hps q (PK _ hq));have hr:=tN (P:=P) (w:=w) (op:=.and) ha hb h0 h1 (.inl ⟨rfl,rfl⟩);exact ⟨_,by simp only [eqGuard,binOp,ne_eq,not_true,P5]; exact hr.1,rfl,hr.2⟩
   ·have h0:=ix ha (fun q hq=>hps q (PE _ hq));have h1:=ix hb (fun q hq=>hps q (PK _ hq));have hr:=tN (P:=P) (w:=w) (op:=.or) ha hb h0 h1 (.inr (.inl ⟨rfl,rfl⟩));exact ⟨_,by simp only [eqGuard,binOp,ne_eq,not_true,P5]; exact hr.1,rfl,hr.2⟩
   ·have h0:=ix ha (fun q hq=>hps q (PE _ hq));have h1:=ix hb (fun q hq=>hps q (PK _ hq));have hr:=tN (P:=P) (w:=w) (op:=.xor) ha hb h0 h1 (.inr (.inr ⟨rfl,rfl⟩));exact ⟨_,by simp only [eqGuard,binOp,ne_eq,not_true,P5]; exact hr.1,rfl,hr.2⟩
  ·exact kQ h hps ha
 ·rename_i a b;obtain rfl:=kX hx;obtain rfl:=kX hy;split at h
  ·rename_i hb;have hu:=Je hb;split at h <;> simp only [Ps,Pv,reduceCtorEq] at h <;> obtain ⟨rfl,rfl⟩:=h
   ·exact ⟨_,by simp [eqGuard,run_eql_bool w t a b hu],rfl⟩
   ·exact ⟨_,by simp [eqGuard,run_neq_bool w t a b hu],rfl⟩
  ·cases h
 ·rename_i a b;obtain ⟨rfl,ha⟩:=kc hx;obtain ⟨rfl,hb⟩:=kc hy;split at h <;> simp only [Ps,Pv,reduceCtorEq] at h <;> obtain ⟨rfl,rfl⟩:=h
  ·refine ⟨_,by simp [eqGuard,binOp,Op.stringOp,go_sem]; rfl,?_⟩;show Value.bool _=Value.bool _; congr 1; rw [RO]; simp
  ·refine ⟨_,by simp [eqGuard,binOp,Op.stringOp,go_sem]; rfl,?_⟩;show Value.bool _=Value.bool _; congr 1; rw [RO]; simp
  ·have h1:=hps _ (PV);refine ⟨.string ⟨(a++b).toArray⟩,?_,rfl,by simpa using h1⟩;have hb:(a.length:Int)+(b.length:Int)<=9223372036854775807:=by simp only [aF] at h1; omega
   simp [eqGuard,binOp,Op.stringOp,go_sem,IntKind.max,IntKind.signed,IntKind.bits];rw [if_neg (by omega)];congr 2
 ·cases h
end
section
variable {P:Program} {w:World} {p:PH} {β:Nat->Value} {tm:Array Value}
theorem AV.one_cells {a:AV} {v:Value} (h:a.one p β v):a.cells p β [v]:=by
 cases a <;> first | exact h | exact h.elim
theorem AV.cells_drop:∀ (k:Nat) (a:AV) (cs:List Value),a.cells p β cs->k<cs.length->(a.drop k).cells p β (cs.drop k)
 | 0,_,_,h,_=>h
 | k+1,a,cs,h,hk=>by
  by_cases hp:∀ x y,a≠.pair x y
  ·obtain ⟨v,rfl,_⟩:=(AV.cells_leaf a hp cs).1 h;simp at hk
  ·cases a <;> (first | (exfalso; apply hp; intro x y e; cases e; done) | skip);rename_i x y
   match cs,h with
   | v::cs,h=>exact AV.cells_drop k y cs h.2 (by simpa using hk)
theorem AV.cells_take:∀ (n:Nat) (a:AV) (cs:List Value),a.cells p β cs->0<n->n<=cs.length->(a.take n).cells p β (cs.take n)
 | 0,_,_,_,h,_=>absurd h (by omega)
 | 1,a,cs,h,_,hn=>by
  by_cases hp:∀ x y,a≠.pair x y
  ·obtain ⟨v,rfl,hv⟩:=(AV.cells_leaf a hp cs).1 h;cases a <;> (first | exact absurd rfl (hp _ _) | exact h)
  ·cases a <;> (first | (exfalso; apply hp; intro x y e; cases e; done) | skip)
   match cs,h with
   | v::cs,h=>exact AV.one_cells h.1
 | n+2,a,cs,h,_,hn=>by
  by_cases hp:∀ x y,a≠.pair x y
  ·obtain ⟨v,rfl,hv⟩:=(AV.cells_leaf a hp cs).1 h;simp at hn
  ·cases a <;> (first | (exfalso; apply hp; intro x y e; cases e; done) | skip);rename_i x y
   match cs,h with
   | v::cs,h=>exact ⟨h.1,AV.cells_take (n+1) y cs h.2 (by omega) (by simpa using hn)⟩
theorem AV.cells_app:∀ (a b:AV) (c1 c2:List Value),a.cells p β c1->b.cells p β c2->(a.app b).cells p β (c1++c2):=by
 intro a
 induction a with
 | pair x y _ ih =>
  intro b c1 c2 h1 h2
  match c1,h1 with
  | v::c1,h1=>exact ⟨h1.1,ih b c1 c2 h1.2 h2⟩
 | _ =>
  intro b c1 c2 h1 h2;obtain ⟨v,rfl,hv⟩:=(AV.cells_leaf _ (by intro x y e; cases e) c1).1 h1;exact ⟨hv,h2⟩
theorem Ty.av_cells:∀ (T:Ty) (x:T.den) (cs:List Value),T.holds p x cs->(T.av x).cells p β cs
 | .int _,_,_,⟨e,h⟩=>by subst e; exact ⟨rfl,h⟩
 | .bool,_,_,e=>by simp only [Ty.holds] at e; subst e; exact rfl
 | .str,_,_,⟨e,h⟩=>by subst e; exact ⟨rfl,h⟩
 | .arr T,xs,cs,h=>by
  obtain ⟨A,c,l,e,hr⟩:=h;subst e;exact ⟨A,c,l,rfl,hr⟩
 | .nil,_,_,e=>by simp only [Ty.holds] at e; subst e; exact rfl
 | .ref T,x,_,⟨b,o,l,e,h1,h2⟩=>by subst e; exact ⟨b,o,l,rfl,h1,h2⟩
 | .fn A B,_,_,h=>by
  have h':=h;obtain ⟨f,v1,v2,e,_⟩:=h';subst e;exact h
 | .map _ _,_,_,h=>by
  have h':=h;rcases h' with ⟨e,_⟩ | ⟨_,_,_,e,_⟩ <;> subst e <;> exact h
 | .pair A B,_,_,⟨c1,c2,e,h1,h2⟩=>by subst e; exact AV.cells_app _ _ _ _ (Ty.av_cells A _ _ h1) (Ty.av_cells B _ _ h2)
theorem AV.val_of_cells_agg {a:AV} {cs:List Value} (h:a.cells p β cs) (hn:2<=cs.length):a.val p β tm (.agg cs.toArray):=by
 by_cases hp:∀ x y,a≠.pair x y
 ·obtain ⟨v,rfl,_⟩:=(AV.cells_leaf a hp cs).1 h;simp at hn
 ·cases a <;> (first | (exfalso; apply hp; intro x y e; cases e; done) | skip);exact ⟨_,rfl,by simpa using h⟩
theorem AV.val_of_one {a:AV} {v:Value} (h:a.one p β v):a.val p β tm v:=by
 cases a <;> first | exact h | exact h.elim
theorem AV.val_of_cells_one {a:AV} {v:Value} (h:a.cells p β [v]):a.val p β tm v:=by
 by_cases hp:∀ x y,a≠.pair x y
 ·obtain ⟨v',e,hv⟩:=(AV.cells_leaf a hp _).1 h;injection e with e _
  subst e;exact AV.val_of_one hv
 ·cases a <;> (first | (exfalso; apply hp; intro x y e; cases e; done) | skip);rename_i x y;exact absurd h.2 (by cases y <;> simp [AV.cells])
theorem ki (b o:Nat):∀ (cs:List Value) (i:Nat) (acc:Array Value),(∀ j u,cs[j]?=some u->w.cell? ⟨b,o+i+j,none⟩=some u) ->
  (loadCellsFrom ⟨b,o,none⟩ i cs.length acc).run P w=.ok (acc++cs.toArray) w
 | [],_,_,_=>by simp [loadCellsFrom]
 | c::cs,i,acc,h=>by
  have h0:=h 0 c (by simp);have hadd:(⟨b,o,none⟩:Addr).add i=⟨b,o+i+0,none⟩:=by unfold Addr.add; split <;> simp_all
  have ih:=ki b o cs (i+1) (acc.push c) (fun j u hu=>by
   have:=h (j+1) u (by simpa using hu);rw [<- this]; congr 2; omega)
  simp only [Pz,loadCellsFrom,PR,hadd];simp only [load,Sem.run,h0,PL];rw [ih];simp
def fj (P:Program) (t:TypeId):Option Nat :=
 match P.info? t with
 | none=>none
 | some i=>match P.underlying t with
  | some (.struct _)=>if Nat.ble 2 i.size then some i.size else none
  | some (.array _ _)=>if Nat.ble 2 i.size then some i.size else none
  | some _=>if Nat.beq i.size 1 then some 1 else none
  | none=>none
theorem gl {t:TypeId} {n:Nat} (h:fj P t=some n) {a:AV} {b o:Nat} {cs:List Value} (ha:a.cells p β cs) (hl:cs.length=n)
  (hc:∀ j u,cs[j]?=some u->w.cell? ⟨b,o+j,none⟩=some u):∃ v,(Instr.loadAt t (.pointer (some ⟨b,o,none⟩))).run P w=.ok v w/\a.val p β tm v:=by
 unfold fj at h;split at h
 ·cases h
 rename_i i hi;have hrow:=ki (P:=P) (w:=w) b o cs 0 #[] (by simpa using hc)
 have one:∀ (d:TypeDesc),P.underlying t=some d->(isAgg t).run P w=.ok false w->i.size=1->n=1->∃ v,(Instr.loadAt t (.pointer (some ⟨b,o,none⟩))).run P w=.ok v w/\a.val p β tm v:=by
  intro d hd hag hs hn;subst hn
  match cs,hl with
  | [v],_ =>
   have h0:=hc 0 v (by simp);refine ⟨v,?_,AV.val_of_cells_one ha⟩;simp only [QU] at h0;simp [Instr.loadAt,Instr.sureAddr,loadVar,hag,load,Sem.run,h0]
 split at h
 ·rename_i fs hu;split at h
  ·injection h with h
   rename_i h2;have h2':=PN h2;refine ⟨.agg cs.toArray,?_,AV.val_of_cells_agg ha (by omega)⟩;have hag:(isAgg t).run P w=.ok true w:=by simp [isAgg,PS hu]
   rw [<- h] at hl;simp [Instr.loadAt,Instr.sureAddr,loadVar,hag,sizeOf,typeInfo,hi,loadCells,<- hl,hrow]
  ·cases h
 ·rename_i k e hu;split at h
  ·injection h with h
   rename_i h2;have h2':=PN h2;refine ⟨.agg cs.toArray,?_,AV.val_of_cells_agg ha (by omega)⟩;have hag:(isAgg t).run P w=.ok true w:=by simp [isAgg,PS hu]
   rw [<- h] at hl;simp [Instr.loadAt,Instr.sureAddr,loadVar,hag,sizeOf,typeInfo,hi,loadCells,<- hl,hrow]
  ·cases h
 ·rename_i d iC hd2 hu;split at h
  ·rename_i h2;injection h with h
   refine one d hu ?_ (Pw h2) h.symm
   have:∀ d',P.underlying t=some d'->(∀ fs,d'≠.struct fs)->(∀ k e,d'≠.array k e)->(isAgg t).run P w=.ok false w:=by
    intro d' hu' h1 h2;cases d' <;> simp [isAgg,PS hu'] <;> first | exact absurd rfl (h1 _) | exact absurd rfl (h2 _ _)
   exact this d hu (fun fs e=>iC fs (by rw [e])) (fun k e e2=>hd2 k e (by rw [e2]))
  ·cases h
 ·cases h
theorem nU (h:Agrees p w) {b o:Nat} {v:Value} (hc:p.cell b o=some v):w.cell? ⟨b,o,none⟩=some v:=by
 unfold PH.cell at hc;cases hp:p b with
 | none=>rw [hp] at hc; cases hc
 | some cs =>
  rw [hp] at hc;have h1:=h b cs hp;cases cs with
  | map es c=>cases hc
  | cells cs =>
   obtain ⟨t,fz,e⟩:=h1;simp only [World.cell?,e];simpa [Blk.get] using hc
end
def AV.ints (k:IntKind):AV->Option (List Int)
 | .int k' n=>if k'=k then some [n] else none
 | .pair (.int k' n) r=>if k'=k then (AV.ints k r).map (n::·) else none
 | _=>none
def AV.setI (i:Nat) (m:Int):Nat->AV->AV
 | j,.int k n=>.int k (if i=j then m else n)
 | j,.pair (.int k n) r=>.pair (.int k (if i=j then m else n)) (AV.setI i m (j+1) r)
 | _,a=>a
def AV.putI (T:Ty) (i:Nat) (c v:AV):Option (Nat×AV) :=
 match T,v with
 | .int k,.int k' m=>if k'=k then (c.ints k).map fun xs=>(xs.length,c.setI i m 0) else none
 | _,_=>none
def tc (P:Program) (t:TypeId) (c:AV):Option (IntKind×List Int) :=
 match P.underlying t with
 | some (.array n e)=>match P.underlying e,P.info? e with
  | some (.int k),some i=>if Nat.beq i.size 1 then match c.ints k with
   | some xs=>if Nat.beq xs.length n&&Nat.ble 2 n then some (k,xs) else none
   | none=>none
   else none
  | _,_=>none
 | _=>none
def FT (P:Program) (lh:Nat->Option LE) (t:TypeId) (a:AV):td :=
 match fj P t with
 | none=>none
 | some n=>match a with
  | .pt T x off=>if Nat.ble (off+n) T.size then some ([],((T.av x).drop off).take n) else none
  | .loc d off=>match lh d with
   | some (.cells c)=>if Nat.ble (off+n) c.len then some ([],(c.drop off).take n) else none
   | _=>none
  | .el d T i off=>match lh d with
   | some (.row _ T' xs)=>if h:T'=T then (if Nat.ble (off+n) T.size then some ([i<xs.length],((T.av ((h ▸ xs).getD i T.dflt)).drop off).take n) else none) else none
   | some (.cells c)=>match T with
    | .int k=>match c.ints k with
     | some xs=>if Nat.beq n 1&&Nat.beq off 0 then some ([i<xs.length],.int k (xs.getD i 0)) else none
     | none=>none
    | _=>none
   | _=>none
  | _=>none
def kF (P:Program) (s:TypeId) (a:AV) (i:Nat):td :=
 match P.underlying s with
 | some (.struct fs)=>match fs[i]? with
  | none=>none
  | some f=>match P.info? f.type with
   | none=>none
   | some inf=>if Nat.beq inf.size 0 then none else match a with
    | .pt T x off=>some ([],.pt T x (off+f.offset))
    | .loc d off=>some ([],.loc d (off+f.offset))
    | .el d T i off=>some ([],.el d T i (off+f.offset))
    | _=>none
 | _=>none
def gG (P:Program) (t:TypeId) (T:Ty):Bool :=
 match P.underlying t with
 | some (.slice e)=>match P.info? e with
  | some i=>Nat.beq i.size T.size
  | none=>false
 | _=>false
def s9 (P:Program) (t:TypeId):Bool :=
 match P.underlying t with
 | some (.slice e)=>match P.info? e with
  | some i=>Nat.beq i.size 1
  | none=>false
 | _=>false
def mW (P:Program) (lh:Nat->Option LE) (t:TypeId) (a i:AV):td :=
 match a,i with
 | .sl T xs,.int _ n=>if gG P t T then some ([0<=n,n<(xs.length:Int)],.pt T (xs.getD n.toNat T.dflt) 0) else none
 | .own d,.int _ n=>match lh d with
  | some (.row _ T xs)=>if gG P t T then some ([0<=n,n<(xs.length:Int)],.el d T n.toNat 0) else none
  | some (.froz T xs)=>if gG P t T then some ([0<=n,n<(xs.length:Int)],.pt T (xs.getD n.toNat T.dflt) 0) else none
  | _=>none
 | .psl d i m,.int _ n=>if s9 P t then some ([0<=n,n<(m:Int)],.loc d (i+n.toNat)) else none
 | .osl d T i m,.int _ n=>if gG P t T then some ([0<=n,n<(m:Int)],.el d T (i+n.toNat) 0) else none
 | .loc d 0,.int _ n=>match lh d with
  | some (.cells c)=>match tc P t c with
   | some (k,xs)=>some ([0<=n,n<(xs.length:Int)],.el d (.int k) n.toNat 0)
   | none=>none
  | _=>none
 | _,_=>none
def iZ (P:Program) (t:TypeId):Bool:=match P.underlying t with | some (.slice _)=>true | _=>false
def qP (P:Program) (t:TypeId):Bool:=match P.underlying t with | some .string=>true | _=>false
def LL (P:Program) (lh:Nat->Option LE) (t:TypeId) (a:AV):td :=
 match a with
 | .sl _ xs=>if iZ P t then some ([],.int .i64 (xs.length:Int)) else none
 | .nils=>if iZ P t then some ([],.int .i64 0) else none
 | .own d=>if iZ P t then (match lh d with
  | some (.row _ _ xs)=>some ([],.int .i64 (xs.length:Int))
  | some (.froz _ xs)=>some ([],.int .i64 (xs.length:Int))
  | _=>none) else none
 | .str s=>if qP P t then some ([],.int .i64 (s.length:Int)) else none
 | _=>none
def AV.nth:AV->Nat->Option AV
 | .tup a _,0=>some a
 | .tup _ b,n+1=>b.nth n
 | _,_=>none
def Oq (op:UnOp) (a:AV):td :=
 match op,a with
 | .not,.bool b=>some ([],.bool (!b))
 | .neg,.int k n=>some ([am k (-n)],.int k (-n))
 | .xor,.int .u64 n=>some ([],.int .u64 (18446744073709551615 - n))
 | _,_=>none
def NW (j k:IntKind):Bool :=
 match j,k with
 | .u8,.u8=>true | .u8,.u16=>true | .u8,.u32=>true | .u8,.u64=>true | .u8,.i64=>true | .u8,.i32=>true
 | .i32,.i64=>true | .i32,.i32=>true | .u32,.u64=>true | .u32,.i64=>true | .i64,.i64=>true | .u64,.u64=>true | .u32,.u32=>true
 | .u16,.u16=>true | .u16,.u64=>true | .u16,.i64=>true
 | _,_=>false
def FU (P:Program) (dst:TypeId) (a:AV):td :=
 match P.underlying dst,a with
 | some (.int k),.int j n=>if NW j k then some ([],.int k n) else some ([],.int k (k.wrap n))
 | some .string,.str s=>some ([],.str s)
 | _,_=>none
def Ar (P:Program) (s:TypeId) (a:AV) (i:Nat):td :=
 match P.underlying s with
 | some (.struct fs)=>match fs[i]? with
  | none=>none
  | some f=>match fj P f.type with
   | none=>none
   | some n=>match a with
    | .pair x y=>if Nat.ble (f.offset+n) (AV.pair x y).len then some ([],((AV.pair x y).drop f.offset).take n) else none
    | _=>none
 | _=>none
section
variable {M:Nat->Prop} {p0:PH} {w0:World} {S:St} {tm:Array Value} {w:World} {p:PH} {β:Nat->Value} {P:Program}
theorem AV.len_cells:∀ (a:AV) (cs:List Value),a.cells p β cs->cs.length=a.len:=by
 intro a
 induction a with
 | pair x y _ ih =>
  intro cs h
  match cs,h with
  | v::cs,h=>simp only [Pz,AV.len,ih cs h.2]; omega
 | _ =>
  intro cs h;obtain ⟨v,rfl,_⟩:=(AV.cells_leaf _ (by intro x y e; cases e) cs).1 h;rfl
theorem jZ {a:AV} {cs:List Value} (h:a.cells p β cs) {off n:Nat} (hn:0<n) (hl:off+n<=cs.length) :
  ((a.drop off).take n).cells p β ((cs.drop off).take n)/\((cs.drop off).take n).length=n :=
 ⟨AV.cells_take n _ _ (AV.cells_drop off a cs h (by omega)) hn (by simp; omega),by simp; omega⟩
theorem lK {t:TypeId} {n:Nat} (h:fj P t=some n):0<n:=by
 unfold fj at h;split at h
 ·cases h
 split at h
 ·split at h
  ·injection h with h; rename_i h2; have:=PN h2; omega
  ·cases h
 ·split at h
  ·injection h with h; rename_i h2; have:=PN h2; omega
  ·cases h
 ·split at h
  ·injection h with h; omega
  ·cases h
 ·cases h
theorem getElem?_drop_take {cs:List Value} {off n j:Nat} {u:Value} (h:((cs.drop off).take n)[j]?=some u):cs[off+j]?=some u:=by
 rw [List.getElem?_take] at h;split at h
 ·rwa [List.getElem?_drop] at h
 ·cases h
theorem B8 (hS:SatB M p0 w0 S tm w p β) {d:Nat} {e:TypeId} {T:Ty} {xs:List T.den} (hd:S.lh d=some (.row e T xs)) {i:Nat} (hi:i<xs.length) :
  ∃ g cap cur,β d=.slice (some ⟨g,0,none⟩) xs.length cap/\w.heap[g]?=some (.cells cur e (0,0))/\cur.size=cap * T.size/\xs.length<=cap /\
   T.holds p (xs.getD i T.dflt) ((cur.toList.drop (i * T.size)).take T.size):=by
 obtain ⟨l,h1,h2,h3⟩:=hS.lhs d _ hd;rcases h1.2 with ⟨_,h0⟩ | ⟨g,cap,cur,e1,_,e2,e3,_,e4,e5⟩
 ·omega
 ·refine ⟨g,cap,cur,e1,e2,e4,e3,?_⟩;have hx:xs[i]?=some (xs.getD i T.dflt):=by simp [List.getD,hi]
  have:=kl (fun x cs h=>Ty.holds_length T x cs h) xs l h2 i _ hx;rw [<- e5] at this;rw [List.drop_take,QQ] at this
  have hm:min T.size (xs.length * T.size - i * T.size)=T.size:=by
   have:(i+1) * T.size<=xs.length * T.size:=P8 _ hi;rw [QR] at this;omega
  rwa [hm] at this
theorem ot {k:IntKind}:∀ {c:AV} {xs:List Int} {cs:List Value},c.ints k=some xs->c.cells p β cs->cs=xs.map (Value.int k)/\∀ x∈xs,am k x
 | c,xs,cs,h,hc=>by
  induction c generalizing xs cs with
  | int k' n =>
   simp only [AV.ints] at h;split at h <;> simp only [Ps,reduceCtorEq] at h;rename_i hk;subst hk h;obtain ⟨v,rfl,hv⟩:=(AV.cells_leaf _ (by intro x y e; cases e) _).1 hc;obtain ⟨rfl,hr⟩:=hv;exact ⟨rfl,fun x hx=>by simp only [PB] at hx; subst hx; exact hr⟩
  | pair a r _ ih =>
   cases a <;> simp only [AV.ints,reduceCtorEq] at h;split at h <;> simp only [Py,reduceCtorEq] at h;rename_i n hk;subst hk;obtain ⟨ys,hys,rfl⟩:=h
   match cs,hc with
   | v::cs,hc =>
    obtain ⟨⟨rfl,hr⟩,h2⟩:=hc;obtain ⟨rfl,hin⟩:=ih (xs:=ys) (cs:=cs) hys h2;refine ⟨rfl,fun x hx=>?_⟩;rcases PD.1 hx with rfl | hx
    ·exact hr
    ·exact hin x hx
  | _=>simp only [AV.ints,reduceCtorEq] at h
theorem MU {i:Nat} {m:Int}:∀ (c:AV) (j:Nat),i<j->AV.setI i m j c=c
 | c,j,h=>by
  induction c generalizing j with
  | int k n=>simp only [AV.setI]; rw [if_neg (by omega)]
  | pair a r _ ih =>
   cases a <;> simp only [AV.setI];rw [if_neg (by omega),ih (j+1) (by omega)]
  | _=>rfl
theorem E7 {k:IntKind} {i:Nat} {m:Int} (hm:am k m):∀ {c:AV} {xs:List Int} {cs:List Value} {j:Nat},c.ints k=some xs->c.cells p β cs->j<=i->i<j+xs.length->(AV.setI i m j c).cells p β (cs.take (i - j)++.int k m::cs.drop (i - j+1))
 | c,xs,cs,j,h,hc,h1,h2=>by
  induction c generalizing xs cs j with
  | int k' n =>
   simp only [AV.ints] at h;split at h <;> simp only [Ps,reduceCtorEq] at h;rename_i hk;subst hk h;obtain ⟨v,rfl,hv⟩:=(AV.cells_leaf _ (by intro x y e; cases e) _).1 hc;have e:i=j:=by simp at h2; omega
   subst e;simp only [AV.setI,if_true,RR,Q5,P0,Qg,QX,RU];exact (AV.cells_leaf _ (by intro x y e; cases e) _).2 ⟨_,rfl,rfl,hm⟩
  | pair a r _ ih =>
   cases a <;> simp only [AV.ints,reduceCtorEq] at h;split at h <;> simp only [Py,reduceCtorEq] at h;rename_i n hk;subst hk;obtain ⟨ys,hys,rfl⟩:=h
   match cs,hc with
   | v::cs,hc =>
    obtain ⟨hv,h3⟩:=hc;simp only [Pz] at h2;by_cases e:i=j
    ·subst e;simp only [AV.setI,if_true,RR,Q5,P0,Qg,QX,RU,MU r (i+1) (Nat.lt_succ_self i)];exact ⟨⟨rfl,hm⟩,h3⟩
    ·have:=ih (xs:=ys) (cs:=cs) (j:=j+1) hys h3 (by omega) (by omega);rw [show i - j=(i - (j+1))+1 by omega];simp only [AV.setI,if_neg e,QV,Qs,QX];exact ⟨hv,this⟩
  | _=>simp only [AV.ints,reduceCtorEq] at h
theorem qm {t:TypeId} {c:AV} {k:IntKind} {xs:List Int} (h:tc P t c=some (k,xs)):∃ e i,P.underlying t=some (.array xs.length e)/\P.underlying e=some (.int k)/\P.info? e=some i/\i.size=1/\c.ints k=some xs/\2<=xs.length:=by
 unfold tc at h;split at h <;> try cases h
 rename_i n e hu;split at h <;> try cases h
 rename_i k' i hk hi;split at h <;> try cases h
 rename_i hs;split at h <;> try cases h
 rename_i ys hys;split at h <;> simp only [Ps,Pv,reduceCtorEq] at h;rename_i hb;obtain ⟨rfl,rfl⟩:=h;simp only [Px] at hb;have hl:=Pw hb.1;have h2:=PN hb.2;exact ⟨e,i,by rw [hl]; exact hu,hk,hi,Pw hs,hys,by omega⟩
theorem eD {b o:Nat} {cs:Array Value} {t:TypeId} {fz:Nat×Nat} (h:w.heap[b]?=some (.cells cs t fz)):w.cell? ⟨b,o,none⟩=cs[o]?:=by
 simp [World.cell?,h]
theorem Aq (hS:SatB M p0 w0 S tm w p β) {t:TypeId} {a:AV} {va:Value} {ps:List Prop} {r:AV} (h:FT P S.lh t a=some (ps,r)) (hps:∀ q∈ps,q)
  (ha:a.val p β tm va):cz P (Instr.loadAt t va) w p β tm r:=by
 unfold FT at h;split at h
 ·cases h
 rename_i n hn;have hpos:=lK hn;split at h
 ·rename_i T x off;split at h
  ·rename_i hb;have hb:=PN hb;simp only [Ps,Pv] at h;obtain ⟨rfl,rfl⟩:=h;obtain ⟨b,o,es,rfl,hh,hc⟩:=ha;have hl:=Ty.holds_length T x es hh;obtain ⟨h1,h2⟩:=jZ (β:=β) (off:=off) (Ty.av_cells T x es hh) hpos (by omega)
   exact gl hn h1 h2 (fun j u hu=>by
    have:=hc (off+j) u (getElem?_drop_take hu);rw [<- Ru] at this;exact nU hS.agr this)
  ·cases h
 ·rename_i d off;split at h
  ·rename_i c hc;split at h
   ·rename_i hb;have hb:=PN hb;simp only [Ps,Pv] at h;obtain ⟨rfl,rfl⟩:=h;obtain ⟨b,e1,rfl⟩:=ha;obtain ⟨b',cs,t',e2,e3,e4⟩:=hS.lhs d _ hc;rw [e1] at e2;injection e2 with e2
    injection e2 with e2
    injection e2 with e2
    subst e2;have hl:=AV.len_cells c cs.toList e4;obtain ⟨h1,h2⟩:=jZ e4 hpos (show off+n<=_ by omega)
    exact gl hn h1 h2 (fun j u hu=>by
     rw [eD e3];have:=getElem?_drop_take hu;simpa using this)
   ·cases h
  ·cases h
 ·rename_i d T i off;split at h
  ·rename_i e' T' xs hd;split at h
   ·rename_i hT;subst hT;split at h
    ·rename_i hb;have hb:=PN hb;simp only [Ps,Pv] at h;obtain ⟨rfl,rfl⟩:=h;have hi:=hps _ (PV);obtain ⟨b,e1,rfl⟩:=ha;obtain ⟨g,cap,cur,e2,e3,e4,e5,e6⟩:=B8 hS hd hi;rw [e2] at e1;injection e1 with e1
     subst e1;have hl:=Ty.holds_length T' _ _ e6;obtain ⟨h1,h2⟩:=jZ (β:=β) (off:=off) (Ty.av_cells T' _ _ e6) hpos (by omega)
     exact gl hn h1 h2 (fun j u hu=>by
      rw [eD e3];have h3:=getElem?_drop_take hu;have h4:=getElem?_drop_take h3;rw [<- Ru] at h4;simpa using h4)
    ·cases h
   ·cases h
  ·rename_i c hd;split at h <;> try cases h
   rename_i k;split at h <;> try cases h
   rename_i xs hxs;split at h <;> simp only [Ps,Pv,reduceCtorEq] at h;rename_i hb;obtain ⟨rfl,rfl⟩:=h;simp only [Px] at hb;have hn1:=Pw hb.1;have ho:=Pw hb.2;have hi:i<xs.length:=hps _ (PV);obtain ⟨b,e1,rfl⟩:=ha;obtain ⟨b',cs,t',e2,e3,e4⟩:=hS.lhs d _ hd;rw [e2] at e1;injection e1 with e1
   subst e1;obtain ⟨e5,hin⟩:=ot hxs e4;have hx:xs[i]?=some (xs.getD i 0):=by simp [List.getD,hi]
   refine gl (cs:=[.int k (xs.getD i 0)]) hn ((AV.cells_leaf _ (by intro x y e; cases e) _).2 ⟨_,rfl,rfl,hin _ (QM hx)⟩) (by simp [hn1]) (fun j u hu=>?_);cases j with
   | succ j=>simp at hu
   | zero =>
    simp only [List.getElem?_cons_zero,Ps] at hu;subst hu;rw [eD e3,ho];have:cs.toList[i]?=some (.int k (xs.getD i 0)):=by rw [e5,List.getElem?_map,hx]; rfl
    simpa [Ty.size] using this
  ·cases h
 ·cases h
theorem fM {b o n:Nat}:(⟨b,o,none⟩:Addr).add n=⟨b,o+n,none⟩:=by unfold Addr.add; split <;> simp_all
theorem p5 {s:TypeId} {a:AV} {i:Nat} {va:Value} {ps:List Prop} {r:AV} (h:kF P s a i=some (ps,r))
  (ha:a.val p β tm va):cz P (Instr.fieldAt s va i) w p β tm r:=by
 unfold kF at h;split at h <;> try cases h
 rename_i fs hu;split at h <;> try cases h
 rename_i f hf;split at h <;> try cases h
 rename_i inf hi;split at h
 ·cases h
 rename_i hz;have hz:inf.size≠0:=by intro e; rw [e] at hz; simp at hz
 have run:∀ b o,(Instr.fieldAt s (.pointer (some ⟨b,o,none⟩)) i).run P w=.ok (.pointer (some ⟨b,o+f.offset,none⟩)) w:=by
  intro b o;simp [Instr.fieldAt,PS hu,hf,Instr.sureAddr,fieldPlace,sizeOf,typeInfo,hi,hz,fM]
 split at h <;> simp only [Ps,Pv,reduceCtorEq] at h <;> obtain ⟨rfl,rfl⟩:=h
 ·obtain ⟨b,o,es,rfl,hh,hc⟩:=ha;exact ⟨_,run _ _,b,o,es,by rw [Ru],hh,hc⟩
 ·obtain ⟨b,e1,rfl⟩:=ha;exact ⟨_,run _ _,b,e1,rfl⟩
 ·obtain ⟨b,e1,rfl⟩:=ha;exact ⟨_,run _ _,b,e1,by rw [Ru]⟩
theorem fJ {t:TypeId} {T:Ty} (h:gG P t T=true):∃ e i,P.underlying t=some (.slice e)/\P.info? e=some i/\i.size=T.size:=by
 unfold gG at h;split at h
 ·rename_i e hu;split at h
  ·rename_i i hi;exact ⟨e,i,hu,hi,Pw h⟩
  ·cases h
 ·cases h
theorem qd {t:TypeId} (h:s9 P t=true):∃ e i,P.underlying t=some (.slice e)/\P.info? e=some i/\i.size=1:=by
 unfold s9 at h;split at h
 ·rename_i e hu;split at h
  ·rename_i i hi;exact ⟨e,i,hu,hi,Pw h⟩
  ·cases h
 ·cases h
theorem kj {t e:TypeId} {i:TypeInfo} (hu:P.underlying t=some (.slice e)) (hi:P.info? e=some i) {b o len cap:Nat} {k:IntKind} {n:Int} (h0:0<=n) (h1:n<(len:Int)) :
  (Instr.indexAt t (.slice (some ⟨b,o,none⟩) len cap) (.int k n)).run P w=.ok (.pointer (some ⟨b,o+n.toNat * i.size,none⟩)) w:=by
 simp [Instr.indexAt,asIntOf,PS hu,h0,h1,sizeOf,typeInfo,hi,fM]
theorem Mg {T:Ty} {xs:List T.den} {v:Value} (h:(Ty.arr T).holds p xs [v]) {i:Nat} (hi:i<xs.length) :
  ∃ b o c es,v=.slice (some ⟨b,o,none⟩) xs.length c/\T.holds p (xs.getD i T.dflt) es/\∀ j u,es[j]?=some u->p.cell b (o+i * T.size+j)=some u:=by
 obtain ⟨A,c,l,e,h1,h2,h3,h4⟩:=h;injection e with e _
 subst e;obtain ⟨b,o,rfl,hc⟩:=h4 (by intro e; subst e; simp at hi);have hx:xs[i]?=some (xs.getD i T.dflt):=by simp [List.getD,hi]
 have:=kl (fun x cs h=>Ty.holds_length T x cs h) xs l h3 i _ hx;refine ⟨b,o,c,_,rfl,this,fun j u hu=>?_⟩;rw [Ru];exact hc _ u (getElem?_drop_take hu)
theorem pZ (hS:SatB M p0 w0 S tm w p β) {t:TypeId} {a i:AV} {va vi:Value} {ps:List Prop} {r:AV} (h:mW P S.lh t a i=some (ps,r)) (hps:∀ q∈ps,q)
  (ha:a.val p β tm va) (hi:i.val p β tm vi):cz P (Instr.indexAt t va vi) w p β tm r:=by
 have arr:∀ {T:Ty} {xs:List T.den} {k:IntKind} {n:Int} {v:Value},gG P t T=true->(Ty.arr T).holds p xs [v]->0<=n->n<(xs.length:Int) ->
   cz P (Instr.indexAt t v (.int k n)) w p β tm (.pt T (xs.getD n.toNat T.dflt) 0):=by
  intro T xs k n v hok hv h0 h1;obtain ⟨e,inf,hu,hinf,hsz⟩:=fJ hok;obtain ⟨b,o,c,es,rfl,hh,hc⟩:=Mg hv (i:=n.toNat) (by omega);refine ⟨_,kj hu hinf h0 h1,b,o+n.toNat * T.size,es,by rw [hsz]; rfl,hh,hc⟩
 unfold mW at h;split at h
 ·rename_i T xs k n;obtain ⟨rfl,_⟩:=ca hi;split at h
  ·rename_i hok;simp only [Ps,Pv] at h;obtain ⟨rfl,rfl⟩:=h;exact arr hok ha (hps _ (by simp)) (hps _ (by simp))
  ·cases h
 ·rename_i d k n;obtain ⟨rfl,_⟩:=ca hi;split at h
  ·rename_i e' T xs hd;split at h
   ·rename_i hok;simp only [Ps,Pv] at h;obtain ⟨rfl,rfl⟩:=h;have h0:0<=n:=hps _ (by simp);have h1:n<(xs.length:Int):=hps _ (by simp);obtain ⟨e,inf,hu,hinf,hsz⟩:=fJ hok;obtain ⟨g,cap,cur,e2,_⟩:=B8 hS hd (i:=n.toNat) (by omega);have ha':va=β d:=ha;rw [ha',e2];refine ⟨_,kj hu hinf h0 h1,g,by rw [e2]; rfl,?_⟩;rw [hsz]; simp
   ·cases h
  ·rename_i T xs hd;split at h
   ·rename_i hok;simp only [Ps,Pv] at h;obtain ⟨rfl,rfl⟩:=h;have ha':va=β d:=ha;rw [ha'];exact arr hok (hS.lhs d _ hd) (hps _ (by simp)) (hps _ (by simp))
   ·cases h
  ·cases h
 ·rename_i d i m k n;obtain ⟨rfl,_⟩:=ca hi;split at h
  ·rename_i hok;simp only [Ps,Pv] at h;obtain ⟨rfl,rfl⟩:=h;have h0:0<=n:=hps _ (by simp);have h1:n<(m:Int):=hps _ (by simp);obtain ⟨e,inf,hu,hinf,hsz⟩:=qd hok;rcases ha with ⟨b,c,e1,_,rfl⟩ | ⟨hm,_⟩
   ·refine ⟨_,kj hu hinf h0 h1,b,e1,?_⟩;rw [hsz,QH]
   ·omega
  ·cases h
 ·rename_i d T i m k n;obtain ⟨rfl,_⟩:=ca hi;split at h
  ·rename_i hok;simp only [Ps,Pv] at h;obtain ⟨rfl,rfl⟩:=h;have h0:0<=n:=hps _ (by simp);have h1:n<(m:Int):=hps _ (by simp);obtain ⟨e,inf,hu,hinf,hsz⟩:=fJ hok;rcases ha with ⟨b,l,c,c',e1,rfl⟩ | ⟨hm,_⟩
   ·refine ⟨_,kj hu hinf h0 h1,b,by rw [e1]; rfl,?_⟩;rw [hsz,Ry];simp
   ·omega
  ·cases h
 ·rename_i d k n;obtain ⟨rfl,_⟩:=ca hi;split at h <;> try cases h
  rename_i c hd;split at h <;> simp only [Ps,Pv,reduceCtorEq] at h;rename_i k' xs hx;obtain ⟨rfl,rfl⟩:=h;have h0:0<=n:=hps _ (by simp);have h1:n<(xs.length:Int):=hps _ (by simp);obtain ⟨e,inf,hu,_,hinf,hsz,_,hl2⟩:=qm hx;obtain ⟨b,e1,rfl⟩:=ha;refine ⟨.pointer (some ⟨b,0+n.toNat * 1,none⟩),?_,b,by rw [e1]; rfl,by simp [Ty.size]⟩;have hle:¬ xs.length<=1:=by omega
  simp [Instr.indexAt,asIntOf,PS hu,h0,h1,sizeOf,typeInfo,hinf,hsz,fM,Instr.sureAddr]
 ·cases h
theorem wC {t:TypeId} (h:iZ P t=true):∃ e,P.underlying t=some (.slice e):=by
 unfold iZ at h;split at h
 ·exact ⟨_,by assumption⟩
 ·cases h
theorem mQ {t:TypeId} (h:qP P t=true):P.underlying t=some .string:=by
 unfold qP at h;split at h
 ·assumption
 ·cases h
theorem fp:∀ T:Ty,8<=T.bytes
 | .int _=>by simp [Ty.bytes]
 | .bool=>by simp [Ty.bytes]
 | .str=>by simp [Ty.bytes]
 | .arr _=>by simp [Ty.bytes]
 | .nil=>by simp [Ty.bytes]
 | .ref _=>by simp [Ty.bytes]
 | .fn _ _=>by simp [Ty.bytes]
 | .map _ _=>by simp [Ty.bytes]
 | .pair A B=>by have:=fp A; simp [Ty.bytes]; omega
theorem zW {T:Ty} {n:Nat} (h:n * T.bytes<=aF):am .i64 (n:Int):=by
 have:=fp T;have h2:n * 8<=n * T.bytes:=Qu _ this;simp only [aF,am] at *;omega
theorem ql {T:Ty} {xs:List T.den} {v:Value} (h:(Ty.arr T).holds p xs [v]):∃ A c,v=.slice A xs.length c/\xs.length * T.bytes<=aF:=by
 obtain ⟨A,c,l,e,h1,h2,h3,h4⟩:=h;injection e with e _
 exact ⟨A,c,e,h2⟩
theorem zD (hS:SatB M p0 w0 S tm w p β) {d:Nat} {e:TypeId} {T:Ty} {xs:List T.den} (hd:S.lh d=some (.row e T xs)):∃ A c,β d=.slice A xs.length c/\xs.length * T.bytes<=aF:=by
 obtain ⟨l,h1,h2,h3⟩:=hS.lhs d _ hd;rcases h1.2 with ⟨e0,h0⟩ | ⟨g,cap,cur,e1,_⟩
 ·exact ⟨none,0,by rw [e0,h0],h3⟩
 ·exact ⟨_,_,e1,h3⟩
theorem Dt (hS:SatB M p0 w0 S tm w p β) {t ty:TypeId} {a:AV} {va:Value} {ps:List Prop} {r:AV} (h:LL P S.lh t a=some (ps,r))
  (ha:a.val p β tm va):cz P (Builtin.len_ #[t] ty #[va]) w p β tm r:=by
 have sl:∀ {A:Option Addr} {n c:Nat},iZ P t=true->(Builtin.len_ #[t] ty #[.slice A n c]).run P w=.ok (.int .i64 (n:Int)) w:=by
  intro A n c ht;obtain ⟨e,hu⟩:=wC ht;simp [Builtin.len_,PS hu,goInt]
 unfold LL at h;split at h
 ·split at h
  ·rename_i ht;simp only [Ps,Pv] at h;obtain ⟨rfl,rfl⟩:=h;obtain ⟨A,c,rfl,hb⟩:=ql ha;exact ⟨_,sl ht,rfl,zW hb⟩
  ·cases h
 ·split at h
  ·rename_i ht;simp only [Ps,Pv] at h;obtain ⟨rfl,rfl⟩:=h;have:va=.slice none 0 0:=ha;subst this;exact ⟨_,sl ht,rfl,by simp [am]⟩
  ·cases h
 ·split at h
  ·rename_i ht;have ha':va=β _:=ha;subst ha';split at h
   ·rename_i hd;simp only [Ps,Pv] at h;obtain ⟨rfl,rfl⟩:=h;obtain ⟨A,c,e,hb⟩:=zD hS hd;rw [e];exact ⟨_,sl ht,rfl,zW hb⟩
   ·rename_i hd;simp only [Ps,Pv] at h;obtain ⟨rfl,rfl⟩:=h;obtain ⟨A,c,e,hb⟩:=ql (hS.lhs _ _ hd);rw [e];exact ⟨_,sl ht,rfl,zW hb⟩
   ·cases h
  ·cases h
 ·split at h
  ·rename_i ht;simp only [Ps,Pv] at h;obtain ⟨rfl,rfl⟩:=h;obtain ⟨rfl,hb⟩:=kc ha;have hu:=mQ ht;refine ⟨.int .i64 _,?_,rfl,?_⟩
   ·simp only [Builtin.len_,Qx,Pz,P4,Qg,Nat.lt_add_one,getElem?_pos,List.getElem_toArray,List.getElem_cons_zero,PR,PS hu,PL];rfl
   ·simp only [aF,am] at *; omega
  ·cases h
 ·cases h
theorem AV.nth_vals:∀ (a:AV) (vs:List Value) (n:Nat) (r:AV),a.vals p β vs->a.nth n=some r->∃ v,vs[n]?=some v/\r.val1 p β v:=by
 intro a
 induction a with
 | tup x y _ ih =>
  intro vs n r h hn
  match vs,h with
  | v::vs,h =>
   match n with
   | 0=>simp [AV.nth] at hn; subst hn; exact ⟨v,rfl,h.1⟩
   | n+1=>simpa using ih vs n r h.2 (by simpa [AV.nth] using hn)
 | _=>intro vs n r h hn; simp [AV.nth] at hn
theorem AV.val_of_val1 {a:AV} {v:Value} (h:a.val1 p β v):a.val p β tm v:=by
 cases a <;> first | exact h | exact h.elim
theorem wH {a:AV} {n:Nat} {va:Value} {r:AV} (h:a.nth n=some r) (ha:a.val p β tm va):cz P (Instr.extract va n) w p β tm r:=by
 cases a <;> (first | (simp [AV.nth] at h; done) | skip);obtain ⟨vs,rfl,hv⟩:=ha;obtain ⟨v,e,h1⟩:=AV.nth_vals _ _ _ _ hv h;refine ⟨v,?_,AV.val_of_val1 h1⟩;simp [Instr.extract,e]
theorem OS {n:Int} (h0:0<=n) (h1:n<=18446744073709551615) :
  IntKind.u64.wrap ((BitVec.ofInt 64 18446744073709551615 ^^^ BitVec.ofInt 64 n).toNat:Int)=18446744073709551615 - n:=by
 have e2:(BitVec.ofInt 64 18446744073709551615 ^^^ BitVec.ofInt 64 n) = ~~~ BitVec.ofInt 64 n:=by
  have:BitVec.ofInt 64 18446744073709551615=BitVec.allOnes 64:=by decide
  rw [this];exact BitVec.allOnes_xor
 have e3:(BitVec.ofInt 64 n).toNat=n.toNat:=by
  obtain ⟨m,rfl⟩:=QK h0;rw [BitVec.ofInt_natCast,BitVec.toNat_ofNat,QC];apply Nat.mod_eq_of_lt;omega
 rw [e2,BitVec.toNat_not,e3];have e4:(((2 ^ 64 - 1 - n.toNat:Nat)):Int)=18446744073709551615 - n:=by omega
 rw [e4,dz (by simp only [am]; omega)]
theorem FS {op:UnOp} {a:AV} {va:Value} {ps:List Prop} {r:AV} (h:Oq op a=some (ps,r)) (hps:∀ q∈ps,q)
  (ha:a.val p β tm va):cz P (Op.unary op va) w p β tm r:=by
 unfold Oq at h;split at h <;> simp only [Ps,Pv,reduceCtorEq] at h <;> obtain ⟨rfl,rfl⟩:=h
 ·obtain rfl:=kX ha;exact ⟨_,rfl,rfl⟩
 ·obtain ⟨rfl,_⟩:=ca ha;have h1:=hps _ (PV);refine ⟨_,?_,rfl,h1⟩;simp only [Op.unary,Op.intArith,P2];rw [Int.zero_sub,dz h1]
 ·rename_i n;obtain ⟨rfl,hr⟩:=ca ha;simp only [am] at hr;have h1:am .u64 (18446744073709551615 - n):=by simp only [am]; omega
  refine ⟨_,?_,rfl,h1⟩;have e1:(if IntKind.signed .u64=true then (-1:Int) else IntKind.max .u64)=18446744073709551615:=by simp [IntKind.signed,IntKind.max,IntKind.bits]
  simp only [Op.unary,e1,Op.intBits,P2];exact congrArg (fun x=>Result.ok (Value.int .u64 x) w) (OS hr.1 hr.2)
theorem HX {j k:IntKind} {n:Int} (h:NW j k=true) (hn:am j n):am k n:=by
 unfold NW at h;split at h <;> first | (cases h; done) | (simp only [am] at hn |-; omega)
theorem At {src dst:TypeId} {a:AV} {va:Value} {ps:List Prop} {r:AV} (h:FU P dst a=some (ps,r)) (ha:a.val p β tm va)
  (hsrc:(P.underlying src).isSome=true):cz P (convert src dst va) w p β tm r:=by
 obtain ⟨ds,hs⟩:=Q7.1 hsrc;unfold FU at h;split at h
 ·rename_i k j n hu;obtain ⟨rfl,hr⟩:=ca ha
  have run:(convert src dst (.int j n)).run P w=.ok (.int k (k.wrap n)) w:=by
   simp only [convert,PR,PS hs,PS hu,PL];cases ds <;> simp [Conv.intToInt]
  split at h <;> simp only [Ps,Pv] at h <;> obtain ⟨rfl,rfl⟩:=h
  ·rename_i hk;have:=HX hk hr;exact ⟨_,run,by rw [dz this]; exact ⟨rfl,this⟩⟩
  ·exact ⟨_,run,rfl,pQ _ _⟩
 ·rename_i s hu;simp only [Ps,Pv] at h;obtain ⟨rfl,rfl⟩:=h;obtain ⟨rfl,hr⟩:=kc ha;refine ⟨_,?_,rfl,hr⟩;simp only [convert,PR,PS hs,PS hu,PL];cases ds <;> simp
 ·cases h
theorem wL {s:TypeId} {a:AV} {i:Nat} {va:Value} {ps:List Prop} {r:AV} (h:Ar P s a i=some (ps,r)) (ha:a.val p β tm va):cz P (Instr.field s va i) w p β tm r:=by
 unfold Ar at h;split at h
 case h_2=>cases h
 rename_i fs hu;split at h <;> try cases h
 rename_i f hf;split at h <;> try cases h
 rename_i n hn;split at h <;> try cases h
 rename_i x y;split at h <;> simp only [Ps,Pv,reduceCtorEq] at h <;> obtain ⟨rfl,rfl⟩:=h;rename_i hle;have hle:=PN hle;obtain ⟨cs,rfl,hc⟩:=ha;have hlen:=(AV.len_cells _ _ hc).symm;have hpos:=lK hn;obtain ⟨h1,h2⟩:=jZ (off:=f.offset) hc hpos (by omega)
 have run:(Instr.field s (.agg cs) i).run P w=(part f.type cs f.offset).run P w:=by
  simp [Instr.field,PS hu,hf,asAgg]
 have key:∀ v,(part f.type cs f.offset).run P w=.ok v w->(AV.take n ((AV.pair x y).drop f.offset)).val p β tm v->cz P (Instr.field s (.agg cs) i) w p β tm (AV.take n ((AV.pair x y).drop f.offset)):=fun v e hv=>⟨v,run.trans e,hv⟩
 have ofAgg:(isAgg f.type).run P w=.ok true w->(∃ i0,P.info? f.type=some i0/\i0.size=n)->2<=n->cz P (Instr.field s (.agg cs) i) w p β tm (AV.take n ((AV.pair x y).drop f.offset)):=by
  rintro hag ⟨i0,hi0,hs0⟩ h2n;refine key (.agg ((cs.toList.drop f.offset).take n).toArray) ?_ (AV.val_of_cells_agg h1 (by omega))
  have e:cs.extract f.offset (f.offset+n)=((cs.toList.drop f.offset).take n).toArray:=by
   apply P6.1;simp [List.take_drop,Array.toList_extract]
  simp [part,hag,sizeOf,typeInfo,hi0,hs0,e]
 have ofOne:(isAgg f.type).run P w=.ok false w->n=1->cz P (Instr.field s (.agg cs) i) w p β tm (AV.take n ((AV.pair x y).drop f.offset)):=by
  intro hag h1n;subst h1n
  have hlt:f.offset<cs.size:=by
   have:cs.toList.length=cs.size:=by simp
   omega
  have e:(cs.toList.drop f.offset).take 1=[cs[f.offset]]:=by
   rw [QN (by simpa using hlt)];simp
  rw [e] at h1;refine key cs[f.offset] ?_ (AV.val_of_cells_one h1);simp [part,hag,hlt]
 unfold fj at hn;split at hn
 ·cases hn
 rename_i i0 hi0;split at hn
 ·rename_i fs' hu';split at hn
  ·rename_i hb;injection hn with hn
   exact ofAgg (by simp [isAgg,PS hu']) ⟨i0,hi0,hn⟩ (by have:=PN hb; omega)
  ·cases hn
 ·rename_i k e hu';split at hn
  ·rename_i hb;injection hn with hn
   exact ofAgg (by simp [isAgg,PS hu']) ⟨i0,hi0,hn⟩ (by have:=PN hb; omega)
  ·cases hn
 ·rename_i d iC hd2 hu';split at hn <;> try cases hn
  refine ofOne ?_ rfl
  have:∀ d',P.underlying f.type=some d'->(∀ fs,d'≠.struct fs)->(∀ k e,d'≠.array k e)->(isAgg f.type).run P w=.ok false w:=by
   intro d' hu' h1 h2;cases d' <;> simp [isAgg,PS hu'] <;> first | exact absurd rfl (h1 _) | exact absurd rfl (h2 _ _)
  exact this d hu' (fun fs e=>iC fs (by rw [e])) (fun k e e2=>hd2 k e (by rw [e2]))
 ·cases hn
end
def gi:List Ty->Type
 | []=>Unit
 | [T]=>T.den
 | T::U::Ts=>T.den×gi (U::Ts)
inductive RT where
 | dat (T:Ty)
 | own (e:TypeId) (T:Ty)
 | map (k:IntKind) (V:Ty)
def RT.den:RT->Type
 | .dat T=>T.den
 | .own _ T=>List T.den
 | .map _ V=>List (Int×V.den)
def eB:List RT->Type
 | []=>Unit
 | [R]=>R.den
 | R::U::Rs=>R.den×eB (U::Rs)
def Ty.vholds (p:PH) (T:Ty) (x:T.den) (v:Value):Prop :=
 match T,x with
 | .pair A B,x=>∃ cs,v=.agg cs/\(Ty.pair A B).holds p x cs.toList
 | T,x=>T.holds p x [v]
def dd (p:PH):(Ts:List Ty)->gi Ts->List Value->Prop
 | [],_,vs=>vs=[]
 | [T],x,vs=>∃ v,vs=[v]/\T.vholds p x v
 | T::U::Ts,x,vs=>∃ v rest,vs=v::rest/\T.vholds p x.1 v/\dd p (U::Ts) x.2 rest
def RT.holds (w:World) (B:Nat) (r q:PH):(R:RT)->R.den->Value->Prop
 | .dat T,x,v=>T.vholds r x v
 | .own e T,xs,v=>(∃ l,w.ownsRow B e T.size v xs.length l/\aM (T.holds r) xs l/\xs.length * T.bytes<=aF)/\∀ b,b8 v=some b->q b=none
 | .map k V,m,v=>(∃ g es clock,v=.map (some g)/\B<=g/\w.heap[g]?=some (.map es clock)/\jz es clock/\cq k (fun x v=>fv V (V.holds r x) v) m es.toList)/\∀ b,b8 v=some b->q b=none
def RT.blk:RT->Value->Option Nat
 | .own _ _,v=>b8 v
 | .map _ _,v=>b8 v
 | .dat _,_=>none
def jp (w:World) (B:Nat) (r q:PH):(Rs:List RT)->eB Rs->List Value->List Nat->Prop
 | [],_,vs,_=>vs=[]
 | [R],x,vs,bs=>∃ v,vs=[v]/\R.holds w B r q x v/\∀ b,R.blk v=some b->b ∉ bs
 | R::U::Rs,x,vs,bs=>∃ v rest,vs=v::rest/\R.holds w B r q x.1 v/\(∀ b,R.blk v=some b->b ∉ bs) /\
   jp w B r q (U::Rs) x.2 rest (match R.blk v with | some b=>b::bs | none=>bs)
def cr:List Value->Value
 | [v]=>v
 | vs=>.tuple vs.toArray
structure Spec where
 Ts:List Ty
 Rs:List RT
 al:Bool:=false
 pre:gi Ts->Prop
 F:gi Ts->eB Rs
def zg:List (Nat×Nat×Value):=((List.zip (List.range 56) [false,false,false,false,true,true,true,true,false,false,false,false,true,true,true,false,true,true,true,false,true,true,false,false,true,true,false,true,true,false,false,false,true,false,false,false,true,true,false,false,true,false,false,false,true,false,false,true,false,false,false,true,true,false,false,false]).map fun x=>(0,x.1,.bool x.2))++[(1,0,.agg ((List.range 20).map fun i=>Value.int .u64 ((10 ^ i:Nat):Int)).toArray),(3,0,.nilIface),(4,0,.nilIface)]
def fits (w:World) (g o:Nat):Value->Prop
 | .nilIface=>∃ te pe,w.cell? ⟨g,o,none⟩=some (.iface te pe)
 | .agg cs=>∃ t fz,w.heap[g]?=some (.cells cs t fz)
 | v=>w.cell? ⟨g,o,none⟩=some v
theorem Jk {w w':World} {g o:Nat} {v:Value} (h:fits w g o v) (e:w'.heap[g]?=w.heap[g]?):fits w' g o v:=by
 have hc:w'.cell? ⟨g,o,none⟩=w.cell? ⟨g,o,none⟩:=by
  unfold World.cell?;simp only;rw [e]
 cases v <;> simp only [fits,hc,e] at h |- <;> exact h
theorem Ak {w:World} {g o:Nat} {v:Value} (h:fits w g o v):g<w.heap.size:=by
 apply Qm;intro hn
 have hc:w.cell? ⟨g,o,none⟩=none:=by
  unfold World.cell?;simp only [Array.getElem?_eq_none (Nat.le_of_not_lt hn)]
 cases v <;> simp [fits,hc,Array.getElem?_eq_none (Nat.le_of_not_lt hn)] at h
def Laid (w:World):Prop:=∀ t∈zg,fits w t.1 t.2.1 t.2.2
theorem Laid.of_heap {w w':World} (h:Laid w) (hk:∀ t∈zg,t.1<w.heap.size->w'.heap[t.1]?=w.heap[t.1]?):Laid w' :=
 fun t ht=>Jk (h t ht) (hk t ht (Ak (h t ht)))
theorem Laid.keep {M:Nat->Prop} {w w':World} (h:Laid w) (hM:∀ t∈zg,¬ M t.1) (k:Keep M w w'):Laid w' :=
 h.of_heap fun t ht hlt=>k.block _ hlt (hM t ht)
def Spec.ok (s:Spec) (P:Program) (f:FuncId):Prop :=
 ∀ (p:PH) (w:World) (vs:List Value) (x:gi s.Ts),Laid w->Agrees p w->dd p s.Ts x vs->s.pre x ->
  Calls P f vs.toArray w fun e w'=>∃ (rs:List Value) (q:PH),e=.returned (cr rs)/\Keep (fun _=>False) w w'/\(∀ b cs,q b=some cs->w.heap.size<=b)/\Agrees q w' /\
   jp w' w.heap.size (if s.al then p.union q else q) q s.Rs (s.F x) rs []
structure RowFn where
 e:TypeId
 T:Ty
 Ts:List Ty
 out:Bool
 tail:Bool:=false
 pre:List T.den->List T.den->gi Ts->Prop
 F:List T.den->List T.den->gi Ts->List T.den
def RowFn.ok (r:RowFn) (P:Program) (f:FuncId):Prop :=
 ∀ (p:PH) (w:World) (v:Value) (xs:List r.T.den) (l:List Value) (v2:Value) (ys:List r.T.den) (l2:List Value) (vs:List Value) (x:gi r.Ts),Laid w->(∀ b,v.ownBlock=some b->∀ k∈zg,k.1≠b)->Agrees p w ->
  w.ownsRow 0 r.e r.T.size v xs.length l->aM (r.T.holds p) xs l->xs.length * r.T.bytes<=aF->(∀ b,v.ownBlock=some b->p b=none) ->
  w.ownsRow 0 r.e r.T.size v2 ys.length l2->aM (r.T.holds p) ys l2->(∀ b,v.ownBlock=some b->v2.ownBlock≠some b) ->
  dd p r.Ts x vs->r.pre xs ys x ->
  Calls P f (v::(vs++if r.tail then [v2] else [])).toArray w fun e w'=>∃ (v':Value) (l':List Value),e=.returned (if r.out then v' else .tuple #[])/\(r.out=false->v'=v)/\w.grownBy w' v.ownBlock /\
   w'.ownsRow 0 r.e r.T.size v' (r.F xs ys x).length l'/\aM (r.T.holds p) (r.F xs ys x) l'/\(r.F xs ys x).length * r.T.bytes<=aF /\
   ∀ b,v'.ownBlock=some b->v.ownBlock=some b\/w.heap.size<=b
structure BoxFn where
 T:Ty
 Ts:List Ty
 Rs:List RT
 pre:T.den->gi Ts->Prop
 F:T.den->gi Ts->eB Rs×T.den
def BoxFn.ok (r:BoxFn) (P:Program) (f:FuncId):Prop :=
 ∀ (p:PH) (w:World) (b:Nat) (cs:Array Value) (t:TypeId) (x:r.T.den) (vs:List Value) (y:gi r.Ts),Laid w->(∀ k∈zg,k.1≠b)->Agrees p w->w.heap[b]?=some (.cells cs t (0,0))->r.T.holds p x cs.toList->p b=none ->
  dd p r.Ts y vs->r.pre x y ->
  Calls P f (.pointer (some ⟨b,0,none⟩)::vs).toArray w fun e w'=>∃ (rs:List Value) (q:PH) (cs':Array Value) (t':TypeId),e=.returned (cr rs)/\w.grownBy w' (some b)/\(∀ b cs,q b=some cs->w.heap.size<=b)/\Agrees q w' /\
   w'.heap[b]?=some (.cells cs' t' (0,0))/\r.T.holds (p.union q) (r.F x y).2 cs'.toList/\jp w' w.heap.size (p.union q) q r.Rs (r.F x y).1 rs []
inductive TFn
 | row (r:RowFn)
 | box (r:BoxFn)
instance:Coe RowFn TFn:=⟨TFn.row⟩
instance:Coe BoxFn TFn:=⟨TFn.box⟩
def TFn.ok (t:TFn) (P:Program) (f:FuncId):Prop:=match t with
 | .row r=>r.ok P f
 | .box r=>r.ok P f
structure Specs where
 fn:FuncId->Option Spec
 row:FuncId->Option TFn
 cut:Bool:=false
 opn:Bool:=false
instance:CoeFun Specs (fun _=>FuncId->Option Spec):=⟨Specs.fn⟩
def Specs.ok (ss:Specs) (P:Program):Prop:=P=Tryz.prog/\(∀ f s,ss f=some s->s.ok P f)/\∀ f r,ss.row f=some r->r.ok P f
def Specs.okA (ss:Specs) (P:Program) (M:Nat->Prop) (w0:World):Prop:=ss.ok P/\Laid w0/\∀ t∈zg,¬ M t.1
def Specs.cutIf (b o:Bool) (ss:Specs):Specs:={ ss with cut:=b,opn:=o }
theorem Specs.okA_cutIf {b o:Bool} {ss:Specs} {P:Program} {M:Nat->Prop} {w0:World} (h:ss.okA P M w0):(ss.cutIf b o).okA P M w0:=h
def AV.pref (n:Nat) (c:AV):AV:=bif Nat.blt n c.len then c.take n else c
def AV.toTy (rows:Bool) (lh:Nat->Option LE):(T:Ty)->AV->Option T.den
 | .int k,.int k' n=>if k'=k then some n else none
 | .bool,.bool b=>some b
 | .str,.str s=>some s
 | .arr T,a=>match a with
  | .nils=>some ([]:List T.den)
  | .sl T' xs=>if h:T'=T then some (h ▸ xs) else none
  | .own d=>match lh d with
   | some (.froz T' xs)=>if h:T'=T then some (h ▸ xs) else none
   | some (.row _ T' xs)=>if rows then (if h:T'=T then some (h ▸ xs) else none) else none
   | _=>none
  | _=>none
 | .pair A B,a=>match AV.toTy rows lh A (a.take A.size),AV.toTy rows lh B (a.drop A.size) with
  | some x,some y=>some (x,y)
  | _,_=>none
 | .nil,a=>match a with
  | .nils=>some ()
  | _=>none
 | .ref T,a=>match a with
  | .pt T' x 0=>if h:T'=T then some (h ▸ x) else none
  | .loc d 0=>if rows then match lh d with
   | some (.cells c)=>AV.toTy true lh T (c.pref T.size)
   | _=>none
   else none
  | _=>none
 | .fn A B,a=>match a with
  | .fd A' B' g=>if h:A'=A/\B'=B then some (h.1 ▸ h.2 ▸ g) else none
  | _=>none
 | .map k V,a=>match a with
  | .nilm=>some ([]:List (Int×V.den))
  | .md k' V' m=>if h:k'=k/\V'=V then some (h.2 ▸ m) else none
  | .mp d=>match lh d with
   | some (.frozm k' V' m)=>if h:k'=k/\V'=V then some (h.2 ▸ m) else none
   | some (.mapp k' V' m)=>if rows then (if h:k'=k/\V'=V then some (h.2 ▸ m) else none) else none
   | _=>none
  | _=>none
 | _,_=>none
def qw (g:(T:Ty)->AV->Option T.den):(Ts:List Ty)->List AV->Option (gi Ts)
 | [],avs=>match avs with
  | []=>some ()
  | _::_=>none
 | [T],avs=>match avs with
  | [a]=>g T a
  | _=>none
 | T::U::Ts,avs=>match avs with
  | []=>none
  | a::avs=>match g T a,qw g (U::Ts) avs with
   | some x,some y=>some (x,y)
   | _,_=>none
def Kc (rows:Bool) (lh:Nat->Option LE):(Ts:List Ty)->List AV->Option (gi Ts):=qw fun T a=>a.toTy rows lh T
def full (w:World):PH:=fun b=>match w.heap[b]? with | some (.cells cs _ _)=>some (.cells cs) | some (.map es c)=>some (.map es c) | _=>none
section
variable {M:Nat->Prop} {p0:PH} {w0:World} {S:St} {tm:Array Value} {w:World} {p:PH} {β:Nat->Value} {P:Program}
theorem Jb {w w':World} {q:PH} (h:Laid w) (hq:PH.le (full w) q) (hg:Agrees q w'):Laid w':=by
 intro t ht;have h1:=h t ht
 have hc:∀ {cs ty fz},w.heap[t.1]?=some (.cells cs ty fz)->∃ t' fz',w'.heap[t.1]?=some (.cells cs t' fz'):=by
  intro cs ty fz e;have h2:full w t.1=some (.cells cs):=by unfold Go.Proofs.YtmfileeamnfpaaaGreatDoor.full; rw [e]
  exact hg _ _ (hq _ _ h2)
 have cell:∀ {u:Value},w.cell? ⟨t.1,t.2.1,none⟩=some u->w'.cell? ⟨t.1,t.2.1,none⟩=some u:=by
  intro u hu;unfold World.cell? at hu |-;simp only at hu |-;split at hu
  ·rename_i cs ty fz e;obtain ⟨t',fz',e'⟩:=hc e;simp only [e'];exact hu
  ·cases hu
 generalize t.2.2=v at h1 |-;cases v
 case nilIface=>obtain ⟨te,pe,e⟩:=h1; exact ⟨te,pe,cell e⟩
 case agg cs=>obtain ⟨ty,fz,e⟩:=h1; exact hc e
 all_goals exact cell h1
theorem mT (w:World):Agrees (full w) w:=by
 intro b cs h;unfold full at h;split at h
 ·rename_i cs' t fz e;injection h with h
  subst h;exact ⟨t,fz,e⟩
 ·rename_i es c e;injection h with h
  subst h;exact e
 ·cases h
theorem pJ (h:Agrees p w):PH.le p (full w):=by
 intro b cs hb;have h1:=h b cs hb;cases cs with
 | cells cs=>obtain ⟨t,fz,e⟩:=h1; simp [full,e]
 | map es c=>have e:w.heap[b]?=some (.map es c):=h1; simp [full,e]
theorem tP (hS:SatB M p0 w0 S tm w p β) {d:Nat} {e:TypeId} {T:Ty} {xs:List T.den} (hd:S.lh d=some (.row e T xs)):(Ty.arr T).holds (full w) xs [β d]:=by
 obtain ⟨l,h1,h2,h3⟩:=hS.lhs d _ hd;rcases h1.2 with ⟨e0,h0⟩ | ⟨g,cap,cur,e1,_,e2,e3,_,e4,e5⟩
 ·have:xs=[]:=PO h0;subst this;exact ⟨none,0,[],by rw [e0]; rfl,by simp,by simp,rfl,fun h=>absurd rfl h⟩
 ·refine ⟨_,cap,l,by rw [e1],e3,h3,dx (fun x cs h=>Ty.holds_mono (pJ hS.agr) T x cs h) _ _ h2,fun _=>⟨g,0,rfl,fun j u hu=>?_⟩⟩;have:(full w) g=some (.cells cur):=by simp [full,e2]
  simp only [PH.cell,this,Qg,Rh,Blk.get];rw [<- e5,List.getElem?_take] at hu;split at hu
  ·simpa using hu
  ·cases hu
theorem Bn (n:Nat):AV.any.take n=.any:=by
 match n with
 | 0=>rfl
 | 1=>rfl
 | k+2=>rfl
theorem kY {rows:Bool} {lh:Nat->Option LE}:∀ (T:Ty),AV.toTy rows lh T .any=none
 | .int _=>rfl
 | .bool=>rfl
 | .str=>rfl
 | .arr _=>rfl
 | .nil=>rfl
 | .ref _=>rfl
 | .fn _ _=>rfl
 | .map _ _=>rfl
 | .pair A B=>by
  have:=kY (rows:=rows) (lh:=lh) A;simp only [AV.toTy,Bn,this]
theorem be (hS:SatB M p0 w0 S tm w p β) {rows:Bool}:∀ (T:Ty) (a:AV) (x:T.den) (cs:List Value),a.toTy rows S.lh T=some x->a.cells p β cs->T.holds (if rows then full w else p) x cs
 | .int k,a,x,cs,h,hc=>by
  cases a <;> (first | (simp [AV.toTy] at h; done) | skip);simp only [AV.toTy] at h;split at h
  ·rename_i hk;subst hk;injection h with h
   subst h;obtain ⟨v,rfl,hv⟩:=(AV.cells_leaf _ (by intro x y e; cases e) cs).1 hc;exact ⟨by rw [hv.1],hv.2⟩
  ·cases h
 | .bool,a,x,cs,h,hc=>by
  cases a <;> (first | (simp [AV.toTy] at h; done) | skip);simp only [AV.toTy] at h;injection h with h
  subst h;obtain ⟨v,rfl,hv⟩:=(AV.cells_leaf _ (by intro x y e; cases e) cs).1 hc;simp only [AV.one] at hv;simp only [Ty.holds,hv]
 | .str,a,x,cs,h,hc=>by
  cases a <;> (first | (simp [AV.toTy] at h; done) | skip);simp only [AV.toTy] at h;injection h with h
  subst h;obtain ⟨v,rfl,hv⟩:=(AV.cells_leaf _ (by intro x y e; cases e) cs).1 hc;exact ⟨by rw [hv.1],hv.2⟩
 | .arr T,a,x,cs,h,hc=>by
  have up:∀ {xs:List T.den} {v:Value},(Ty.arr T).holds p xs [v]->(Ty.arr T).holds (if rows then full w else p) xs [v]:=by
   intro xs v hv;cases rows
   ·exact hv
   ·exact Ty.holds_mono (pJ hS.agr) _ _ _ hv
  cases a <;> (first | (simp [AV.toTy] at h; done) | skip)
  ·simp only [AV.toTy] at h;injection h with h
   subst h;obtain ⟨v,rfl,hv⟩:=(AV.cells_leaf _ (by intro x y e; cases e) cs).1 hc;simp only [AV.one] at hv;subst hv;exact ⟨none,0,[],rfl,by simp,by simp,rfl,fun h=>absurd rfl h⟩
  ·simp only [AV.toTy] at h;split at h
   ·rename_i hT;subst hT;injection h with h
    subst h;obtain ⟨v,rfl,hv⟩:=(AV.cells_leaf _ (by intro x y e; cases e) cs).1 hc;exact up hv
   ·cases h
  ·rename_i d;obtain ⟨v,rfl,hv⟩:=(AV.cells_leaf _ (by intro x y e; cases e) cs).1 hc;simp only [AV.one] at hv;subst hv;simp only [AV.toTy] at h;split at h
   ·rename_i T' xs hd;split at h
    ·rename_i hT;subst hT;injection h with h
     subst h;exact up (hS.lhs d _ hd)
    ·cases h
   ·rename_i e T' xs hd;cases rows
    ·simp at h
    ·simp only [if_true] at h;split at h
     ·rename_i hT;subst hT;injection h with h
      subst h;exact tP hS hd
     ·cases h
   ·cases h
 | .pair A B,a,x,cs,h,hc=>by
  simp only [AV.toTy] at h;split at h
  ·rename_i x1 y1 h1 h2;injection h with h
   subst h;have hA:=Ty.size_pos A
   have key:A.size<cs.length:=by
    rcases PU A.size cs.length with hlt | hge
    ·exact hlt
    ·exfalso;have hl:=AV.len_cells a cs hc
     have:(a.drop A.size)=.any:=by
      have gen:∀ (k:Nat) (a:AV),a.len<=k->0<k->a.drop k=.any:=by
       intro k
       induction k with
       | zero=>intro a _ h; omega
       | succ k ih =>
        intro a hle _;cases a <;> simp only [AV.drop];rename_i x y;simp only [AV.len] at hle;rcases Nat.eq_zero_or_pos k with hk | hk
        ·subst hk;cases y <;> simp only [AV.len] at hle <;> omega
        ·exact ih y (by omega) hk
      exact gen A.size a (by omega) hA
     rw [this] at h2;rw [kY] at h2;cases h2
   refine ⟨cs.take A.size,cs.drop A.size,(Qr _ _).symm,?_,?_⟩
   ·exact be hS A _ _ _ h1 (AV.cells_take _ a cs hc hA (by omega))
   ·exact be hS B _ _ _ h2 (AV.cells_drop _ a cs hc key)
  ·cases h
 | .nil,a,x,cs,h,hc=>by
  cases a <;> (first | (simp [AV.toTy] at h; done) | skip);obtain ⟨v,rfl,hv⟩:=(AV.cells_leaf _ (by intro x y e; cases e) cs).1 hc;simp only [AV.one] at hv;subst hv;exact rfl
 | .fn A B,a,x,cs,h,hc=>by
  cases a <;> (first | (simp [AV.toTy] at h; done) | skip);simp only [AV.toTy] at h;split at h
  ·rename_i hT;obtain ⟨rfl,rfl⟩:=hT;injection h with h
   subst h;obtain ⟨v,rfl,hv⟩:=(AV.cells_leaf _ (by intro x y e; cases e) cs).1 hc;cases rows
   ·exact hv
   ·exact Ty.holds_mono (pJ hS.agr) _ _ _ hv
  ·cases h
 | .map k V,a,x,cs,h,hc=>by
  have hle:PH.le p (if rows=true then full w else p):=by
   cases rows
   ·exact PH.le.refl p
   ·exact pJ hS.agr
  cases a <;> (first | (simp [AV.toTy] at h; done) | skip)
  ·rename_i d;obtain ⟨v,rfl,hv⟩:=(AV.cells_leaf _ (by intro x y e; cases e) cs).1 hc;simp only [AV.one] at hv;subst hv;simp only [AV.toTy] at h;split at h
   ·rename_i k' V' m hd;split at h
    ·rename_i hT;obtain ⟨rfl,rfl⟩:=hT;injection h with h
     subst h;exact Ty.holds_mono hle _ _ _ (hS.lhs d _ hd)
    ·cases h
   ·rename_i k' V' m hd;cases rows
    ·simp at h
    ·simp only [if_true] at h hle |-;split at h
     ·rename_i hT;obtain ⟨rfl,rfl⟩:=hT;injection h with h
      subst h;obtain ⟨r,es,clock,e1,e2,_,e4⟩:=hS.lhs d _ hd;exact .inr ⟨r,es,clock,by rw [e1],by simp [full,e2],cf (fun x _=>dH (fun cs=>Ty.holds_mono hle V' x cs)) _ _ e4⟩
     ·cases h
   ·cases h
  ·simp only [AV.toTy] at h;split at h
   ·rename_i hT;obtain ⟨rfl,rfl⟩:=hT;injection h with h
    subst h;obtain ⟨v,rfl,hv⟩:=(AV.cells_leaf _ (by intro x y e; cases e) cs).1 hc;exact Ty.holds_mono hle _ _ _ hv
   ·cases h
  ·simp only [AV.toTy] at h;injection h with h
   subst h;obtain ⟨v,rfl,hv⟩:=(AV.cells_leaf _ (by intro x y e; cases e) cs).1 hc;simp only [AV.one] at hv;subst hv;exact .inl ⟨rfl,rfl⟩
 | .ref T,a,x,cs,h,hc=>by
  cases a <;> (first | (simp [AV.toTy] at h; done) | skip)
  ·rename_i d off;simp only [AV.toTy] at h;split at h
   ·rename_i hl; cases hl
   case h_3=>cases h
   rename_i d' hl;injection hl with hd ho
   subst hd ho;split at h <;> try cases h
   rename_i hr;subst hr
   have hcc:∃ c,S.lh d=some (.cells c)/\AV.toTy true S.lh T (c.pref T.size)=some x:=by
    cases hl:S.lh d with
    | none=>rw [hl] at h; cases h
    | some e=>cases e <;> rw [hl] at h <;> first | (cases h; done) | exact ⟨_,rfl,h⟩
   obtain ⟨c,hd,h⟩:=hcc;obtain ⟨v,rfl,hv⟩:=(AV.cells_leaf _ (by intro x y e; cases e) cs).1 hc;obtain ⟨b,e1,rfl⟩:=hv;obtain ⟨b',cs',t,e2,e3,e4⟩:=hS.lhs d _ hd;rw [e1] at e2;injection e2 with e2
   injection e2 with e2
   injection e2 with e2
   subst e2
   obtain ⟨m,e5⟩:∃ m,(c.pref T.size).cells p β (cs'.toList.take m):=by
    unfold AV.pref;cases hb:Nat.blt T.size c.len
    ·exact ⟨cs'.toList.length,by rw [List.take_length]; exact e4⟩
    ·have hlt:T.size<c.len:=by simpa using hb
     have hle:=AV.len_cells c _ e4;exact ⟨T.size,AV.cells_take T.size c _ e4 (Ty.size_pos T) (by omega)⟩
   have hh:=be hS (rows:=true) T _ x _ h e5;simp only [if_true] at hh |-;refine ⟨b,0,_,rfl,hh,fun j u hu=>?_⟩;have:(full w) b=some (.cells cs'):=by simp [full,e3]
   simp only [PH.cell,this,Qg,Rh,Blk.get];rw [List.getElem?_take] at hu;split at hu
   ·simpa using hu
   ·cases hu
  ·simp only [AV.toTy] at h;split at h
   case h_2=>rename_i hl; cases hl
   case h_3=>cases h
   rename_i T' y hl;split at h <;> try cases h
   rename_i hT;subst hT;injection hl with h1 h2 h3
   subst h1 h3;have h2:=eq_of_heq h2;subst h2;obtain ⟨v,rfl,hv⟩:=(AV.cells_leaf _ (by intro x y e; cases e) cs).1 hc;obtain ⟨b,o,es,rfl,k1,k2⟩:=hv
   have hle:PH.le p (if rows=true then full w else p):=by
    cases rows
    ·exact PH.le.refl p
    ·exact pJ hS.agr
   exact ⟨b,o,es,by simp,Ty.holds_mono hle _ _ _ k1,fun j u hu=>hle.cell (k2 j u hu)⟩
theorem cP (hS:SatB M p0 w0 S tm w p β) {rows:Bool} {T:Ty} {a:AV} {x:T.den} {v:Value} (h:a.toTy rows S.lh T=some x) (ha:a.val p β tm v):T.vholds (if rows then full w else p) x v:=by
 by_cases hp:∃ y z,a=.pair y z
 ·obtain ⟨y,z,rfl⟩:=hp;obtain ⟨cs,rfl,hc⟩:=ha;have hh:=be hS T _ x _ h hc;cases T with
  | pair A B=>exact ⟨cs,rfl,hh⟩
  | _=>simp [AV.toTy] at h
 ·cases T with
  | pair A B =>
   exfalso;simp only [AV.toTy] at h;have hA:=Ty.size_pos A
   have:a.drop A.size=.any:=by
    match hk:A.size,hA with
    | k+1,_=>cases a <;> first | rfl | exact absurd ⟨_,_,rfl⟩ hp
   rw [this,kY] at h;split at h <;> simp_all
  | int k =>
   cases a <;> (first | (simp [AV.toTy] at h; done) | skip);exact be hS (.int k) _ x [v] h (AV.one_cells ha)
  | bool =>
   cases a <;> (first | (simp [AV.toTy] at h; done) | skip);exact be hS .bool _ x [v] h (AV.one_cells (p:=p) (β:=β) ha)
  | str =>
   cases a <;> (first | (simp [AV.toTy] at h; done) | skip);exact be hS .str _ x [v] h (AV.one_cells (p:=p) (β:=β) ha)
  | arr T =>
   cases a <;> (first | (simp [AV.toTy] at h; done) | skip)
   ·exact be hS (.arr T) _ x [v] h (AV.one_cells (p:=p) (β:=β) ha)
   ·exact be hS (.arr T) _ x [v] h (AV.one_cells (p:=p) (β:=β) ha)
   ·exact be hS (.arr T) _ x [v] h (AV.one_cells (p:=p) (β:=β) ha)
  | nil =>
   cases a <;> (first | (simp [AV.toTy] at h; done) | skip);exact be hS .nil _ x [v] h (AV.one_cells (p:=p) (β:=β) ha)
  | ref T =>
   cases a <;> (first | (simp [AV.toTy] at h; done) | skip)
   ·exact be hS (.ref T) _ x [v] h (AV.one_cells (p:=p) (β:=β) ha)
   ·exact be hS (.ref T) _ x [v] h (AV.one_cells (p:=p) (β:=β) ha)
  | fn A B =>
   cases a <;> (first | (simp [AV.toTy] at h; done) | skip);exact be hS (.fn A B) _ x [v] h (AV.one_cells (p:=p) (β:=β) ha)
  | map k V =>
   cases a <;> (first | (simp [AV.toTy] at h; done) | skip)
   ·exact be hS (.map k V) _ x [v] h (AV.one_cells (p:=p) (β:=β) ha)
   ·exact be hS (.map k V) _ x [v] h (AV.one_cells (p:=p) (β:=β) ha)
   ·exact be hS (.map k V) _ x [v] h (AV.one_cells (p:=p) (β:=β) ha)
theorem g8 {g:(T:Ty)->AV->Option T.den} {r:PH} (hg:∀ (T:Ty) (a:AV) (x:T.den) (v:Value),g T a=some x->a.val p β tm v->T.vholds r x v) :
  ∀ (Ts:List Ty) (avs:List AV) (x:gi Ts) (vs:List Value),qw g Ts avs=some x->vs.length=avs.length ->
  (∀ (i:Nat) a v,avs[i]?=some a->vs[i]?=some v->a.val p β tm v)->dd r Ts x vs
 | [],avs,x,vs,h,hl,_=>by
  cases avs with
  | nil=>exact PO hl
  | cons a avs=>cases h
 | [T],avs,x,vs,h,hl,hv=>by
  match avs,h,hl,hv with
  | [a],h,hl,hv =>
   match vs,hl,hv with
   | [v],_,hv=>exact ⟨v,rfl,hg T a x v h (hv 0 a v rfl rfl)⟩
 | T::U::Ts,avs,x,vs,h,hl,hv=>by
  match avs,h,hl,hv with
  | a::avs,h,hl,hv =>
   match vs,hl,hv with
   | v::vs,hl,hv =>
    unfold qw at h;simp only at h;split at h
    ·rename_i y z h1 h2;injection h with h
     subst h;exact ⟨v,vs,rfl,hg T a y v h1 (hv 0 a v rfl rfl),g8 hg (U::Ts) avs z vs h2 (by simpa using hl) (fun i a v ha hb=>hv (i+1) a v (by simpa using ha) (by simpa using hb))⟩
    ·cases h
theorem rp (hS:SatB M p0 w0 S tm w p β) {rows:Bool} (Ts:List Ty) (avs:List AV) (x:gi Ts) (vs:List Value) (h:Kc rows S.lh Ts avs=some x) (hl:vs.length=avs.length)
  (hv:∀ (i:Nat) a v,avs[i]?=some a->vs[i]?=some v->a.val p β tm v):dd (if rows then full w else p) Ts x vs :=
 g8 (fun _ _ _ _ h ha=>cP hS h ha) Ts avs x vs h hl hv
end
end Go.Proofs.YtmfileeamnfpaaaGreatDoor
