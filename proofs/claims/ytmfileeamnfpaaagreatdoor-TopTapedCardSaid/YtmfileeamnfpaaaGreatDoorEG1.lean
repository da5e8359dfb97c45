
import Derived.WalkKit
import Derived.KernelRfl
import Derived.Maps.RangeRun
import Derived.Test.YtmfileeamnfpaaaGreatDoorProg
namespace Go.Proofs.YtmfileeamnfpaaaGreatDoor
open Go
abbrev pS:=@Option.some.injEq
abbrev tM:=@of_decide_eq_true
abbrev uZ:=@of_decide_eq_false
abbrev zn:=@Prod.mk.injEq
abbrev CC:=@Nat.eq_of_beq_eq_true
abbrev CF:=@Bool.and_eq_true
abbrev Dm:=@Option.map_eq_some_iff
abbrev HN:=@List.length_cons
abbrev KK:=@List.length_append
abbrev L3:=@List.mem_append_left
abbrev Qs:=@List.mem_cons
abbrev Qw:=@List.mem_append_right
abbrev Qx:=@List.mem_append
abbrev Qy:=@List.all_eq_true
abbrev Qz:=@Bool.false_eq_true
abbrev QA:=@List.mem_singleton
abbrev QB:=@cond_false
abbrev QC:=@Result.andThen_ok
abbrev QD:=@List.length_take
abbrev QE:=@Nat.le_of_ble_eq_true
abbrev QF:=@List.eq_nil_of_length_eq_zero
abbrev QG:=@List.take_of_length_le
abbrev QH:=@List.length_drop
abbrev QI:=@Nat.le_refl
abbrev QJ:=@List.mem_cons_self
abbrev QK:=@List.mem_cons_of_mem
abbrev QL:=@Sem.run_bind
abbrev QM:=@run_underlying
abbrev QN:=@Bool.not_eq_true'
abbrev QO:=@Nat.lt_or_ge
abbrev QP:=@decide_eq_true_eq
abbrev QQ:=@List.length_nil
abbrev QR:=@List.mem_map
abbrev QS:=@cond_true
abbrev QT:=@List.contains_iff_mem
abbrev QU:=@Sem.run_pure
abbrev QV:=@List.length_replicate
abbrev QW:=@if_false
abbrev QX:=@List.drop_of_length_le
abbrev QY:=@List.take_append_of_le_length
abbrev QZ:=@Array.toList_inj
abbrev Q0:=@List.nil_append
abbrev Q1:=@List.map_cons
abbrev Q2:=@Nat.mul_le_mul_right
abbrev Q3:=@List.length_map
abbrev Q4:=@List.take_succ_eq_append_getElem
abbrev Q5:=@Int.toNat_natCast
abbrev Q6:=@Option.map_some
abbrev Q7:=@List.flatMap_cons
abbrev Q8:=@List.append_nil
abbrev Q9:=@List.pairwise_cons
abbrev Ra:=@Nat.le_trans
abbrev Rb:=@List.mem_or_eq_of_mem_set
abbrev Rc:=@Classical.byContradiction
abbrev Re:=@Nat.zero_le
abbrev Rf:=@List.cons_append
abbrev Rg:=@List.map_append
abbrev Rh:=@decide_eq_false_iff_not
abbrev Ri:=@Bool.or_eq_true
abbrev Rj:=@List.filter_cons_of_pos
abbrev Rk:=@Nat.mul_le_mul_left
abbrev Rl:=@Nat.zero_add
abbrev Rm:=@decide_eq_true
abbrev Rn:=@Bool.or_eq_false_iff
abbrev Ro:=@Int.eq_ofNat_of_zero_le
abbrev Rp:=@Nat.lt_of_lt_of_le
abbrev Rq:=@List.drop_eq_getElem_cons
abbrev Rr:=@List.mem_of_getElem?
abbrev Rt:=@List.all_cons
abbrev Ru:=@List.take_append_drop
abbrev Rv:=@List.length_singleton
abbrev Rw:=@Array.length_toList
abbrev Rx:=@List.mem_filter
abbrev Ry:=@Bool.eq_iff_iff
abbrev Rz:=@decide_eq_false
abbrev RA:=@Option.some.inj
abbrev RB:=@List.eq_of_mem_replicate
abbrev RC:=@List.take_succ_cons
abbrev RD:=@Nat.succ_mul
abbrev RE:=@List.size_toArray
abbrev RF:=@List.filter_cons_of_neg
abbrev RG:=@List.mem_of_mem_take
abbrev RH:=@Tryz.ntmps58
abbrev RI:=@List.any_eq_true
abbrev RJ:=@List.map_congr_left
abbrev RK:=@List.drop_succ_cons
abbrev RL:=@size_madeCells
abbrev RM:=@List.drop_drop
abbrev RN:=@Bool.true_and
abbrev RO:=@Nat.min_eq_left
abbrev RQ:=@Nat.add_zero
abbrev RR:=@List.map_nil
abbrev RS:=@List.mem_filterMap
abbrev RU:=@Tryz.func58
abbrev RV:=@List.not_mem_nil
abbrev RW:=@List.mem_of_mem_drop
abbrev RX:=@Int.le_refl
abbrev RY:=@Bool.or_false
abbrev RZ:=@heap_alloc_new
abbrev R1:=@List.take_zero
abbrev R2:=@List.take_take
abbrev R3:=@Nat.mul_one
abbrev R4:=@List.length_set
abbrev R5:=@List.set_append_right
abbrev R6:=@Bool.and_eq_false_iff
abbrev R7:=@List.mem_flatMap
abbrev R8:=@List.map_toArray
abbrev R9:=@Option.isSome_iff_exists
abbrev Sa:=@List.any_cons
abbrev Sb:=@true_and
abbrev Sc:=@List.replicate_succ
abbrev Sd:=@MapKept.run_getObj_map
abbrev Se:=@List.drop_eq_nil_of_le
abbrev Sf:=@run_program
abbrev Sg:=@Option.bind_some
abbrev Sh:=@List.drop_append
abbrev Sk:=@Array.mem_append
abbrev Sl:=@List.pairwise_iff_getElem
abbrev Sm:=@Oper.upon_enter
abbrev Sn:=@List.foldl_cons
abbrev So:=@List.cons.injEq
abbrev Sp:=@List.pairwise_append
abbrev Sq:=@List.ext_getElem?
abbrev Su:=@Int.sub_zero
abbrev Sv:=@Bool.false_or
abbrev Sw:=@List.length_pos_iff
abbrev Sx:=@List.flatMap_append
abbrev Sy:=@Int.toNat_of_nonneg
abbrev Sz:=@Tryz.underlying4
abbrev SA:=@Bool.false_and
abbrev SB:=@Nat.add_mul
abbrev SC:=@Nat.sub_self
abbrev SD:=@and_self
abbrev SE:=@List.dropLast_concat_getLast
abbrev SF:=@Nat.add_assoc
abbrev SG:=@World.ownsRow_nil
abbrev SH:=@Int.emod_eq_of_lt
abbrev SI:=@and_true
abbrev SJ:=@List.drop_zero
abbrev SK:=@Option.getD_some
abbrev SL:=@List.take_append
abbrev SM:=@Bool.not_true
abbrev SN:=@List.nodup_cons
abbrev SO:=@List.filter_append
abbrev SP:=@List.mem_range
abbrev SQ:=@List.any_eq_false
abbrev SR:=@List.length_filter_le
abbrev SS:=@decide_eq_decide
abbrev ST:=@beq_iff_eq
abbrev SU:=@and_assoc
abbrev SV:=@Tryz.underlying3
abbrev SW:=@Tryz.underlying0
abbrev SX:=@List.flatMap_nil
abbrev SY:=@Array.toList_map
abbrev SZ:=@List.mem_iff_getElem
abbrev S5:=@Int.ofNat_eq_natCast
abbrev S6:=@Array.toArray_toList
abbrev S7:=@Tryz.zeroValue4
abbrev S8:=@Tryz.zeroValue3
abbrev S9:=@Tryz.zeroValue0
abbrev Ta:=@List.filterMap_cons
abbrev Tb:=@List.all_nil
abbrev Tc:=@Addr.add_lit
abbrev Td:=@or_false
abbrev Te:=@Tryz.underlying267
abbrev Tf:=@Tryz.underlying182
abbrev Tg:=@Bool.not_false
abbrev Th:=@Tryz.zeroValue267
abbrev Ti:=@Tryz.zeroValue182
abbrev Tj:=@Tryz.underlying45
abbrev Tk:=@List.nodup_append
abbrev Tl:=@List.foldl_append
inductive Ty where
 | int (k:IntKind)
 | bool
 | str
 | arr (T:Ty)
 | pair (A B:Ty)
 | nil
 | ref (T:Ty)
 | fn (A B:Ty)
 | map (k:IntKind) (V:Ty)
 deriving DecidableEq
def Ty.den:Ty->Type
 | .int _=>Int
 | .bool=>Bool
 | .str=>List UInt8
 | .arr T=>List T.den
 | .pair A B=>A.den×B.den
 | .nil=>Unit
 | .ref T=>T.den
 | .fn A B=>(A.den->Prop)×(A.den->B.den)
 | .map _ V=>List (Int×V.den)
def Ty.size:Ty->Nat
 | .pair A B=>A.size+B.size
 | _=>1
def Ty.bytes:Ty->Nat
 | .int _=>8
 | .bool=>8
 | .str=>16
 | .arr _=>24
 | .pair A B=>A.bytes+B.bytes
 | .nil=>24
 | .ref _=>8
 | .fn _ _=>8
 | .map _ _=>8
def Ty.dflt:(T:Ty)->T.den
 | .int _=>(0:Int)
 | .bool=>false
 | .str=>([]:List UInt8)
 | .arr T=>([]:List T.den)
 | .pair A B=>(A.dflt,B.dflt)
 | .nil=>()
 | .ref T=>T.dflt
 | .fn _ B=>(fun _=>False,fun _=>B.dflt)
 | .map _ V=>([]:List (Int×V.den))
def ak:IntKind->Int->Prop
 | .i8,n=>-128<=n/\n<=127
 | .i16,n=>-32768<=n/\n<=32767
 | .i32,n=>-2147483648<=n/\n<=2147483647
 | .i64,n=>-9223372036854775808<=n/\n<=9223372036854775807
 | .u8,n=>0<=n/\n<=255
 | .u16,n=>0<=n/\n<=65535
 | .u32,n=>0<=n/\n<=4294967295
 | .u64,n=>0<=n/\n<=18446744073709551615
theorem dC {k:IntKind} {n:Int} (h:ak k n):k.wrap n=n:=by
 cases k <;> simp [ak,IntKind.wrap,IntKind.bits,IntKind.signed] at h |- <;> omega
theorem fP (k:IntKind) (n:Int):ak k (k.wrap n):=by
 cases k <;> simp [ak,IntKind.wrap,IntKind.bits,IntKind.signed] <;> omega
inductive Blk where
 | cells (cs:Array Value)
 | map (es:Array MapEntry) (clock:Nat)
def Blk.get:Blk->Nat->Option Value
 | .cells cs,o=>cs[o]?
 | .map _ _,_=>none
def jL (es:Array MapEntry) (clock:Nat):Prop:=(es.toList.map (·.born)).Pairwise (·<·)/\∀ e∈es.toList,e.born<clock
def Blk.In:Blk->Option Obj->Prop
 | .cells cs,o=>∃ t fz,o=some (.cells cs t fz)
 | .map es clock,o=>o=some (.map es clock)
abbrev PH:=Nat->Option Blk
def PH.cell (p:PH) (b o:Nat):Option Value:=(p b).bind (fun cs=>cs.get o)
def PH.le (p q:PH):Prop:=∀ b cs,p b=some cs->q b=some cs
theorem PH.le.refl (p:PH):PH.le p p:=fun _ _ h=>h
theorem PH.le.trans {p q r:PH} (h:PH.le p q) (k:PH.le q r):PH.le p r:=fun b cs e=>k b cs (h b cs e)
theorem PH.le.cell {p q:PH} (h:PH.le p q) {b o:Nat} {v:Value} (e:p.cell b o=some v):q.cell b o=some v:=by
 unfold PH.cell at e |-;cases hp:p b with
 | none=>rw [hp] at e; cases e
 | some cs=>rw [hp] at e; rw [h b cs hp]; exact e
def aN {α:Type} (h:α->List Value->Prop):List α->List Value->Prop
 | [],cs=>cs=[]
 | x::xs,cs=>∃ c1 c2,cs=c1++c2/\h x c1/\aN h xs c2
def aK:Nat:=140737488355328
def Agrees (p:PH) (w:World):Prop:=∀ b cs,p b=some cs->cs.In w.heap[b]?
def cz {α:Type} (k:IntKind) (h:α->Value->Prop):List (Int×α)->List MapEntry->Prop
 | [],es=>es=[]
 | x::m,es=>∃ e es',es=e::es'/\e.key=.int k x.1/\ak k x.1/\h x.2 e.val/\cz k h m es'
def bA {α:Type}:List (Int×α)->Int->Option α
 | [],_=>none
 | x::m,k=>if x.1=k then some x.2 else bA m k
def gp {α:Type}:List (Int×α)->Int->α->List (Int×α)
 | [],k,v=>[(k,v)]
 | x::m,k,v=>if x.1=k then (k,v)::m else x::gp m k v
structure Keep (M:Nat->Prop) (w0 w:World):Prop where
 os:w.os=w0.os
 tape:w.tape=w0.tape
 output:w.output=w0.output
 size:w0.heap.size<=w.heap.size
 block:∀ i,i<w0.heap.size->¬ M i->w.heap[i]?=w0.heap[i]?
def PH.union (p q:PH):PH:=fun b=>match p b with | some c=>some c | none=>q b
def cX (P:Program) (f:FuncId):Bool :=
 match P.funcs[f]? with
 | some fn => !(fn.name == "runtime.NumGoroutine") && fn.body.isSome
 | none=>false
def Ty.isPair:Ty->Bool
 | .pair _ _=>true
 | _=>false
def fC (T:Ty) (h:List Value->Prop) (v:Value):Prop:=if T.isPair=true then ∃ cs,v=.agg cs/\h cs.toList else h [v]
def Ty.isNil:Ty->Bool
 | .nil=>true
 | _=>false
def Qi:Nat:=167
def Ty.holds:(T:Ty)->PH->T.den->List Value->Prop
 | .int k,_,n,cs=>cs=[.int k n]/\ak k n
 | .bool,_,b,cs=>cs=[.bool b]
 | .str,_,s,cs=>cs=[.string ⟨s.toArray⟩]/\s.length<=aK
 | .arr T,p,xs,cs=>∃ A c l,cs=[.slice A xs.length c]/\xs.length<=c/\xs.length * T.bytes<=aK/\aN (T.holds p) xs l /\
   (xs≠[]->∃ b o,A=some ⟨b,o,none⟩/\∀ j u,l[j]?=some u->p.cell b (o+j)=some u)
 | .pair A B,p,x,cs=>∃ c1 c2,cs=c1++c2/\A.holds p x.1 c1/\B.holds p x.2 c2
 | .nil,_,_,cs=>cs=[.slice none 0 0]
 | .ref T,p,x,cs=>∃ b o l,cs=[.pointer (some ⟨b,o,none⟩)]/\T.holds p x l/\∀ j u,l[j]?=some u->p.cell b (o+j)=some u
 | .fn A B,p,g,cs=>∃ f v1 v2,cs=[.func (.func f) v1 v2]/\cX Tryz.prog f=true/\(A.isNil=false->∀ (q:PH) (w:World) (va:Value) (x:A.den),PH.le p q->Agrees q w->fC A (A.holds q x) va->g.1 x ->
   Calls Tryz.prog f (v1++#[va]++v2) w fun e w'=>∃ r q',e=.returned r/\Keep (fun _=>False) w w'/\(∀ b cs,q' b=some cs->w.heap.size<=b)/\Agrees q' w'/\fC B (B.holds (q.union q') (g.2 x)) r) /\
   (A.isNil=true->f=Qi/\v1=#[]/\∃ b o l,v2=#[.pointer (some ⟨b,o,none⟩)]/\(∀ z:A.den,B.holds p (g.2 z) l)/\∀ j u,l[j]?=some u->p.cell b (o+j)=some u)
 | .map k V,p,m,cs=>(cs=[.map none]/\(show List (Int×V.den) from m)=[])\/∃ r es c,cs=[.map (some r)]/\p r=some (.map es c)/\cz k (fun x v=>fC V (V.holds p x) v) m es.toList
def Ty.wf:(T:Ty)->T.den->Prop
 | .int k,n=>ak k n
 | .bool,_=>True
 | .str,s=>s.length<=aK
 | .arr T,xs=>(show List T.den from xs).length * T.bytes<=aK/\∀ x∈(show List T.den from xs),T.wf x
 | .pair A B,x=>A.wf x.1/\B.wf x.2
 | .nil,_=>True
 | .ref T,x=>T.wf x
 | .fn _ _,_=>True
 | .map k V,m=>∀ x∈(show List (Int×V.den) from m),ak k x.1/\V.wf x.2
theorem c8 {α:Type} {h k:α->List Value->Prop} (hk:∀ x cs,h x cs->k x cs):∀ (xs:List α) (cs:List Value),aN h xs cs->aN k xs cs
 | [],_,e=>e
 | _::xs,_,⟨c1,c2,e,h1,h2⟩=>⟨c1,c2,e,hk _ _ h1,c8 hk xs _ h2⟩
theorem ci {α:Type} {k:IntKind} {h h':α->Value->Prop} (hk:∀ x v,h x v->h' x v):∀ (m:List (Int×α)) (es:List MapEntry),cz k h m es->cz k h' m es
 | [],_,e=>e
 | _::m,_,⟨e,es',e1,h1,h2,h3,h4⟩=>⟨e,es',e1,h1,h2,hk _ _ h3,ci hk m _ h4⟩
theorem dJ {T:Ty} {h h':List Value->Prop} (hk:∀ cs,h cs->h' cs) {v:Value} (hv:fC T h v):fC T h' v:=by
 unfold fC at hv |-;split
 ·rename_i hp;rw [if_pos hp] at hv;obtain ⟨cs,e,h1⟩:=hv;exact ⟨cs,e,hk _ h1⟩
 ·rename_i hp;rw [if_neg hp] at hv;exact hk _ hv
theorem Ty.holds_mono {p q:PH} (h:PH.le p q):∀ (T:Ty) (x:T.den) (cs:List Value),T.holds p x cs->T.holds q x cs
 | .nil,_,_,e=>e
 | .ref T,_,_,⟨b,o,l,e,hl,hc⟩=>⟨b,o,l,e,Ty.holds_mono h T _ _ hl,fun j u hu=>h.cell (hc j u hu)⟩
 | .fn _ B,_,_,⟨f,v1,v2,e,hc,hf,hs⟩=>⟨f,v1,v2,e,hc,fun hn r w va x hr=>hf hn r w va x (h.trans hr),fun hn=>by
   obtain ⟨e1,e2,b,o,l,e3,hl,hcell⟩:=hs hn;exact ⟨e1,e2,b,o,l,e3,fun z=>Ty.holds_mono h B _ _ (hl z),fun j u hu=>h.cell (hcell j u hu)⟩⟩
 | .map _ _,_,_,.inl e=>.inl e
 | .map _ V,_,_,.inr ⟨r,es,c,e,hp,hm⟩=>.inr ⟨r,es,c,e,h _ _ hp,ci (fun x _=>dJ (fun cs=>Ty.holds_mono h V x cs)) _ _ hm⟩
 | .int _,_,_,e=>e
 | .bool,_,_,e=>e
 | .str,_,_,e=>e
 | .arr T,_,_,⟨A,c,l,e,hc,hb,hr,hp⟩=>⟨A,c,l,e,hc,hb,c8 (fun x cs=>Ty.holds_mono h T x cs) _ _ hr,fun hne=>by
   obtain ⟨b,o,ha,hcell⟩:=hp hne;exact ⟨b,o,ha,fun j u hu=>h.cell (hcell j u hu)⟩⟩
 | .pair A B,_,_,⟨c1,c2,e,h1,h2⟩=>⟨c1,c2,e,Ty.holds_mono h A _ _ h1,Ty.holds_mono h B _ _ h2⟩
theorem dc {α:Type} {h:α->List Value->Prop} {n:Nat} (hn:∀ x cs,h x cs->cs.length=n):∀ (xs:List α) (cs:List Value),aN h xs cs->cs.length=xs.length * n
 | [],_,e=>by simp [aN] at e; simp [e]
 | _::xs,_,⟨c1,c2,e,h1,h2⟩=>by
  rw [e,KK,hn _ _ h1,dc hn xs _ h2,HN,RD]; omega
theorem Ty.holds_length {p:PH}:∀ (T:Ty) (x:T.den) (cs:List Value),T.holds p x cs->cs.length=T.size
 | .nil,_,_,e=>by simp only [Ty.holds] at e; rw [e]; rfl
 | .ref _,_,_,⟨_,_,_,e,_⟩=>by rw [e]; rfl
 | .fn _ _,_,_,⟨_,_,_,e,_⟩=>by rw [e]; rfl
 | .map _ _,_,_,.inl e=>by rw [e.1]; rfl
 | .map _ _,_,_,.inr ⟨_,_,_,e,_⟩=>by rw [e]; rfl
 | .int _,_,_,e=>by rw [e.1]; rfl
 | .bool,_,_,e=>by simp only [Ty.holds] at e; rw [e]; rfl
 | .str,_,_,e=>by rw [e.1]; rfl
 | .arr _,_,_,⟨_,_,_,e,_⟩=>by rw [e]; rfl
 | .pair A B,_,_,⟨c1,c2,e,h1,h2⟩=>by
  rw [e,KK,Ty.holds_length A _ _ h1,Ty.holds_length B _ _ h2]; rfl
theorem Ty.size_pos:∀ T:Ty,0<T.size
 | .int _=>by simp [Ty.size]
 | .bool=>by simp [Ty.size]
 | .str=>by simp [Ty.size]
 | .arr _=>by simp [Ty.size]
 | .nil=>by simp [Ty.size]
 | .ref _=>by simp [Ty.size]
 | .fn _ _=>by simp [Ty.size]
 | .map _ _=>by simp [Ty.size]
 | .pair A B=>by have:=Ty.size_pos A; simp [Ty.size]; omega
theorem vd {α:Type} {h:α->List Value->Prop} {k:α->Prop} (hk:∀ x cs,h x cs->k x):∀ (xs:List α) (cs:List Value),aN h xs cs->∀ x∈xs,k x
 | [],_,_=>by simp
 | y::xs,_,⟨c1,c2,_,h1,h2⟩=>by
  intro x hx;rcases Qs.1 hx with rfl | hx
  ·exact hk _ _ h1
  ·exact vd hk xs _ h2 x hx
theorem wh {α:Type} {k:IntKind} {h:α->Value->Prop} {r:α->Prop} (hk:∀ x v,h x v->r x):∀ (m:List (Int×α)) (es:List MapEntry),cz k h m es->∀ x∈m,ak k x.1/\r x.2
 | [],_,_=>by simp
 | y::m,_,⟨_,es',_,_,h2,h3,h4⟩=>by
  intro x hx;rcases Qs.1 hx with rfl | hx
  ·exact ⟨h2,hk _ _ h3⟩
  ·exact wh hk m es' h4 x hx
theorem IO {T:Ty} {h:List Value->Prop} {r:Prop} (hk:∀ cs,h cs->r) {v:Value} (hv:fC T h v):r:=by
 unfold fC at hv;split at hv
 ·obtain ⟨cs,_,h1⟩:=hv;exact hk _ h1
 ·exact hk _ hv
theorem Ty.holds_wf {p:PH}:∀ (T:Ty) (x:T.den) (cs:List Value),T.holds p x cs->T.wf x
 | .int _,_,_,e=>e.2
 | .bool,_,_,_=>trivial
 | .str,_,_,e=>e.2
 | .arr T,_,_,⟨_,_,_,_,_,hb,hr,_⟩=>⟨hb,vd (fun x cs=>Ty.holds_wf T x cs) _ _ hr⟩
 | .pair A B,_,_,⟨_,_,_,h1,h2⟩=>⟨Ty.holds_wf A _ _ h1,Ty.holds_wf B _ _ h2⟩
 | .nil,_,_,_=>trivial
 | .ref T,_,_,⟨_,_,_,_,h,_⟩=>Ty.holds_wf T _ _ h
 | .fn _ _,_,_,_=>trivial
 | .map _ V,m,_,.inl e=>by
  have:(show List (Int×V.den) from m)=[]:=e.2;intro x hx;rw [this] at hx;cases hx
 | .map _ V,_,_,.inr ⟨_,_,_,_,_,hm⟩=>wh (fun x _ h=>IO (fun cs=>Ty.holds_wf V x cs) h) _ _ hm
theorem kM {α:Type} {h:α->List Value->Prop} {n:Nat} (hn:∀ x cs,h x cs->cs.length=n):∀ (xs:List α) (cs:List Value),aN h xs cs ->
  ∀ (j:Nat) (x:α),xs[j]?=some x->h x ((cs.drop (j * n)).take n)
 | [],_,_=>by intro j x hx; simp at hx
 | y::xs,cs,⟨c1,c2,e,h1,h2⟩=>by
  intro j x hx;have l1:=hn _ _ h1
  match j with
  | 0 =>
   simp at hx;subst hx;rw [e];simp only [Nat.zero_mul,SJ];rw [QY (by omega),QG (by omega)];exact h1
  | j+1 =>
   simp at hx;have:=kM hn xs c2 h2 j x hx;rw [e]
   have e2:(c1++c2).drop ((j+1) * n)=c2.drop (j * n):=by
    rw [RD,Sh,QX (by omega)];simp only [Q0];congr 1;omega
   rw [e2];exact this
theorem cC {α:Type} {h:α->List Value->Prop}:∀ (xs ys:List α) (cs ds:List Value),aN h xs cs->aN h ys ds->aN h (xs++ys) (cs++ds)
 | [],ys,cs,ds,h1,h2=>by simp only [aN] at h1; subst h1; exact h2
 | x::xs,ys,cs,ds,⟨c1,c2,e,hx,hxs⟩,h2=>⟨c1,c2++ds,by rw [e,List.append_assoc],hx,cC xs ys c2 ds hxs h2⟩
inductive AV where
 | any
 | int (k:IntKind) (n:Int)
 | bool (b:Bool)
 | str (s:List UInt8)
 | nils
 | sl (T:Ty) (xs:List T.den)
 | own (d:Nat)
 | pair (a b:AV)
 | tup (a b:AV)
 | tnil
 | loc (d off:Nat)
 | pt (T:Ty) (x:T.den) (off:Nat)
 | el (d:Nat) (T:Ty) (i:Nat) (off:Nat)
 | fn (f:Nat) (c1 c2:List (Nat×Nat))
 | mp (d:Nat)
 | gd (g:Nat) (w:Bool) (a:AV)
 | bl (t f:Prop)
 | osl (d:Nat) (T:Ty) (i n:Nat)
 | psl (d i n:Nat)
 | fd (A B:Ty) (g:(A.den->Prop)×(A.den->B.den))
 | md (k:IntKind) (V:Ty) (m:List (Int×V.den))
 | nilm
 | nilf
inductive LE where
 | cells (c:AV)
 | row (e:TypeId) (T:Ty) (xs:List T.den)
 | froz (T:Ty) (xs:List T.den)
 | mapp (k:IntKind) (V:Ty) (m:List (Int×V.den))
 | frozm (k:IntKind) (V:Ty) (m:List (Int×V.den))
 | iter (k:IntKind) (V:Ty) (l:List (Int×V.den)) (cur:Option (Int×V.den))
 | mapo (k:IntKind) (V:Ty) (m:List (Int×Option V.den)) (x:Int) (c:AV)
 | dead
 | frame (tm:Array Value) (env:Nat->AV)
def LE.live:LE->Bool
 | .cells _=>true
 | .row ..=>true
 | .mapp ..=>true
 | .iter ..=>true
 | .mapo ..=>true
 | _=>false
def AV.app:AV->AV->AV
 | .pair a b,c=>.pair a (b.app c)
 | a,c=>.pair a c
def AV.len:AV->Nat
 | .pair _ b=>1+b.len
 | _=>1
def AV.drop:Nat->AV->AV
 | 0,a=>a
 | n+1,.pair _ b=>b.drop n
 | _+1,_=>.any
def AV.take:Nat->AV->AV
 | 0,_=>.any
 | 1,.pair a _=>a
 | 1,a=>a
 | n+2,.pair a b=>.pair a (b.take (n+1))
 | _+2,_=>.any
def AV.put:Nat->AV->Nat->AV->AV
 | 0,v,n,a=>if Nat.beq a.len n then v else v.app (a.drop n)
 | off+1,v,n,.pair a b=>.pair a (AV.put off v n b)
 | _+1,_,_,_=>.any
def Ty.av:(T:Ty)->T.den->AV
 | .int k,n=>.int k n
 | .bool,b=>.bool b
 | .str,s=>.str s
 | .arr T,xs=>.sl T xs
 | .pair A B,x=>(A.av x.1).app (B.av x.2)
 | .nil,_=>.nils
 | .ref T,x=>.pt T x 0
 | .fn A B,g=>.fd A B g
 | .map k V,m=>.md k V m
def b8:Value->Option Nat
 | .pointer (some a)=>some a.block
 | .slice (some a) _ _=>some a.block
 | .map (some r)=>some r
 | _=>none
def ir (β:Nat->Value):List (Nat×Nat)->List Value->Prop
 | [],vs=>vs=[]
 | (d,off)::c,vs=>∃ b rest,vs=.pointer (some ⟨b,off,none⟩)::rest/\β d=.pointer (some ⟨b,0,none⟩)/\ir β c rest
def AV.one (p:PH) (β:Nat->Value):AV->Value->Prop
 | .any,_=>True
 | .int k n,v=>v=.int k n/\ak k n
 | .bool b,v=>v=.bool b
 | .str s,v=>v=.string ⟨s.toArray⟩/\s.length<=aK
 | .nils,v=>v=.slice none 0 0
 | .sl T xs,v=>(Ty.arr T).holds p xs [v]
 | .own d,v=>v=β d
 | .loc d off,v=>∃ b,β d=.pointer (some ⟨b,0,none⟩)/\v=.pointer (some ⟨b,off,none⟩)
 | .pt T x off,v=>∃ b o es,v=.pointer (some ⟨b,o+off,none⟩)/\T.holds p x es/\∀ j u,es[j]?=some u->p.cell b (o+j)=some u
 | .el d T i off,v=>∃ b,b8 (β d)=some b/\v=.pointer (some ⟨b,i * T.size+off,none⟩)
 | .fn f c1 c2,v=>∃ v1 v2,v=.func (.func f) v1 v2/\ir β c1 v1.toList/\ir β c2 v2.toList
 | .mp d,v=>v=β d
 | .bl t f,v=>∃ b,v=.bool b/\(b=true->t)/\(b=false->f)
 | .osl d T i n,v=>(∃ b m c c',β d=.slice (some ⟨b,0,none⟩) m c/\v=.slice (some ⟨b,i * T.size,none⟩) n c')\/(n=0/\∃ A c,v=.slice A 0 c)
 | .fd A B g,v=>(Ty.fn A B).holds p g [v]
 | .md k V m,v=>(Ty.map k V).holds p m [v]
 | .psl d i n,v=>(∃ b c,β d=.pointer (some ⟨b,0,none⟩)/\n<=c/\v=.slice (some ⟨b,i,none⟩) n c)\/(n=0/\∃ A c,v=.slice A 0 c)
 | .nilm,v=>v=.map none
 | .nilf,v=>v=.nilFunc
 | _,_=>False
def AV.cells (p:PH) (β:Nat->Value):AV->List Value->Prop
 | .pair a b,v::cs=>a.one p β v/\b.cells p β cs
 | .pair _ _,[]=>False
 | a,[v]=>a.one p β v
 | _,_=>False
def AV.val1 (p:PH) (β:Nat->Value):AV->Value->Prop
 | .pair a b,v=>∃ cs,v=.agg cs/\(AV.pair a b).cells p β cs.toList
 | a,v=>a.one p β v
def AV.vals (p:PH) (β:Nat->Value):AV->List Value->Prop
 | .tup a b,v::vs=>a.val1 p β v/\b.vals p β vs
 | .tnil,[]=>True
 | _,_=>False
def AV.val (p:PH) (β:Nat->Value) (tm:Array Value):AV->Value->Prop
 | .tup a b,v=>∃ vs,v=.tuple vs.toArray/\(AV.tup a b).vals p β vs
 | .tnil,v=>v=.tuple #[]
 | .gd g w a,v=>(tm.getD g undef=.bool w/\a.val p β tm v)\/(tm.getD g undef≠.bool w/\v=undef)
 | a,v=>a.val1 p β v
def Mt {α:Type}:List (Int×Option α)->Prop
 | []=>True
 | e::m=>(e.2=none->∀ e'∈m,e'.2≠none)/\Mt m
def jb (p:PH) (β:Nat->Value) (V:Ty) (c:AV):Option V.den->Value->Prop
 | some y,v=>fC V (V.holds p y) v
 | none,v=>c.one p β v
def LE.sat (p:PH) (β:Nat->Value) (w:World) (d:Nat):LE->Prop
 | .cells c=>∃ b cs t,β d=.pointer (some ⟨b,0,none⟩)/\w.heap[b]?=some (.cells cs t (0,0))/\c.cells p β cs.toList
 | .row e T xs=>∃ l,w.ownsRow 0 e T.size (β d) xs.length l/\aN (T.holds p) xs l/\xs.length * T.bytes<=aK
 | .froz T xs=>(Ty.arr T).holds p xs [β d]
 | .mapp k V m=>∃ r es clock,β d=.map (some r)/\w.heap[r]?=some (.map es clock)/\jL es clock/\cz k (fun x v=>fC V (V.holds p x) v) m es.toList
 | .frozm k V m=>(Ty.map k V).holds p m [β d]
 | .iter k V l cur=>∃ r bm since seen c0 es clock,β d=.pointer (some ⟨r,0,none⟩)/\w.heap[r]?=some (.mapIter (some bm) since seen c0)/\p bm=some (.map es clock)/\jL es clock/\(∀ e∈es.toList,e.born<since)/\since<=c0/\since<=clock /\
   cz k (fun x v=>fC V (V.holds p x) v) l (leftOf es seen).toList/\∀ x,cur=some x->∃ e∈es.toList,∃ s0:Array Nat,seen=s0.push e.born/\c0=clock/\e.key=.int k x.1/\ak k x.1/\fC V (V.holds p x.2) e.val
 | .mapo k V m x c=>∃ r es clock,β d=.map (some r)/\w.heap[r]?=some (.map es clock)/\jL es clock/\(bA m x=some none/\Mt m)/\cz k (jb p β V c) m es.toList
 | .dead=>True
 | .frame tm env=>∀ s,(env s).val p β tm (tm.getD s undef)
structure St where
 env:Nat->AV
 lh:Nat->Option LE
 n:Nat
 lock:Nat->Bool
structure SatB (M:Nat->Prop) (p0:PH) (w0:World) (S:St) (tm:Array Value) (w:World) (p:PH) (β:Nat->Value):Prop where
 keep:Keep M w0 w
 agr:Agrees p w
 old:∀ b cs,p b=some cs->w0.heap.size<=b\/M b\/p0 b=some cs
 size:tm.size=S.n
 lhs:∀ d e,S.lh d=some e->e.sat p β w d
 owns:∀ d e b,S.lh d=some e->e.live=true->b8 (β d)=some b->(M b\/w0.heap.size<=b)/\p b=none
 inj:∀ d d' e e' b,S.lh d=some e->e.live=true->S.lh d'=some e'->e'.live=true->b8 (β d)=some b->b8 (β d')=some b->d=d'
 env:∀ s,(S.env s).val p β tm (tm.getD s undef)
def Sat (M:Nat->Prop) (p0:PH) (w0:World) (S:St) (tm:Array Value) (w:World):Prop:=∃ p β,SatB M p0 w0 S tm w p β
theorem AV.one_mono {p q:PH} (h:PH.le p q) {β:Nat->Value}:∀ (a:AV) (v:Value),a.one p β v->a.one q β v:=by
 intro a v ha;cases a <;> simp only [AV.one] at ha |- <;> try exact ha
 ·exact Ty.holds_mono h _ _ _ ha
 ·obtain ⟨b,o,es,e1,e2,e3⟩:=ha;exact ⟨b,o,es,e1,Ty.holds_mono h _ _ _ e2,fun j u hu=>h.cell (e3 j u hu)⟩
 ·exact Ty.holds_mono h _ _ _ ha
 ·exact Ty.holds_mono h _ _ _ ha
theorem AV.cells_mono {p q:PH} (h:PH.le p q) {β:Nat->Value}:∀ (a:AV) (cs:List Value),a.cells p β cs->a.cells q β cs
 | .pair _ _,[]=>fun h'=>h'.elim
 | .pair a b,v::cs=>fun h'=>⟨AV.one_mono h a v h'.1,AV.cells_mono h b cs h'.2⟩
 | .any,[v]=>AV.one_mono h _ v | .int ..,[v]=>AV.one_mono h _ v | .bool _,[v]=>AV.one_mono h _ v | .str _,[v]=>AV.one_mono h _ v | .nils,[v]=>AV.one_mono h _ v
 | .sl ..,[v]=>AV.one_mono h _ v | .own _,[v]=>AV.one_mono h _ v | .tup ..,[v]=>AV.one_mono h _ v | .tnil,[v]=>AV.one_mono h _ v | .loc ..,[v]=>AV.one_mono h _ v
 | .pt ..,[v]=>AV.one_mono h _ v | .el ..,[v]=>AV.one_mono h _ v | .fn ..,[v]=>AV.one_mono h _ v | .mp _,[v]=>AV.one_mono h _ v | .gd ..,[v]=>AV.one_mono h _ v | .bl ..,[v]=>AV.one_mono h _ v | .fd ..,[v]=>AV.one_mono h _ v | .osl ..,[v]=>AV.one_mono h _ v | .psl ..,[v]=>AV.one_mono h _ v | .md ..,[v]=>AV.one_mono h _ v | .nilm,[v]=>AV.one_mono h _ v | .nilf,[v]=>AV.one_mono h _ v
 | .any,[] | .int ..,[] | .bool _,[] | .str _,[] | .nils,[] | .sl ..,[] | .own _,[] | .tup ..,[] | .tnil,[] | .loc ..,[] | .pt ..,[] | .el ..,[] | .fn ..,[] | .mp _,[] | .gd ..,[] | .bl ..,[] | .fd ..,[] | .osl ..,[] | .psl ..,[] | .md ..,[] | .nilm,[] | .nilf,[]=>fun h'=>h'
 | .any,_::_::_ | .int ..,_::_::_ | .bool _,_::_::_ | .str _,_::_::_ | .nils,_::_::_ | .sl ..,_::_::_ | .own _,_::_::_ | .tup ..,_::_::_ | .tnil,_::_::_
 | .loc ..,_::_::_ | .pt ..,_::_::_ | .el ..,_::_::_ | .fn ..,_::_::_ | .mp _,_::_::_ | .gd ..,_::_::_ | .bl ..,_::_::_ | .fd ..,_::_::_ | .osl ..,_::_::_ | .psl ..,_::_::_ | .md ..,_::_::_ | .nilm,_::_::_ | .nilf,_::_::_=>fun h'=>h'
theorem AV.val1_mono {p q:PH} (h:PH.le p q) {β:Nat->Value} (a:AV) (v:Value) (ha:a.val1 p β v):a.val1 q β v:=by
 cases a <;> simp only [AV.val1] at ha |- <;> try exact AV.one_mono h _ v ha
 obtain ⟨cs,e,hc⟩:=ha;exact ⟨cs,e,AV.cells_mono h _ _ hc⟩
theorem AV.vals_mono {p q:PH} (h:PH.le p q) {β:Nat->Value}:∀ (a:AV) (vs:List Value),a.vals p β vs->a.vals q β vs
 | .tup a b,v::vs=>fun h'=>⟨AV.val1_mono h a v h'.1,AV.vals_mono h b vs h'.2⟩
 | .tup _ _,[]=>fun h'=>h'
 | .tnil,[]=>fun h'=>h'
 | .tnil,_::_=>fun h'=>h'
 | .any,_ | .int ..,_ | .bool _,_ | .str _,_ | .nils,_ | .sl ..,_ | .own _,_ | .pair ..,_ | .loc ..,_ | .pt ..,_ | .el ..,_ | .fn ..,_ | .mp _,_ | .gd ..,_ | .bl ..,_ | .fd ..,_ | .osl ..,_ | .psl ..,_ | .md ..,_ | .nilm,_ | .nilf,_=>fun h'=>by simp [AV.vals] at h'
theorem AV.val_mono {p q:PH} (h:PH.le p q) {β:Nat->Value} {tm:Array Value}:∀ (a:AV) (v:Value),a.val p β tm v->a.val q β tm v:=by
 intro a v ha
 induction a generalizing v with
 | gd g w a ih =>
  simp only [AV.val] at ha |-;rcases ha with ⟨e,ha⟩ | ha
  ·exact .inl ⟨e,ih v ha⟩
  ·exact .inr ha
 | tup a b =>
  simp only [AV.val] at ha |-;obtain ⟨vs,e,hv⟩:=ha;exact ⟨vs,e,AV.vals_mono h _ _ hv⟩
 | _=>simp only [AV.val] at ha |- <;> first | exact AV.val1_mono h _ v ha | exact ha
def AV.scrub (bad:Nat->Bool):AV->AV
 | .own d=>bif bad d then .any else .own d
 | .loc d off=>bif bad d then .any else .loc d off
 | .el d T i off=>bif bad d then .any else .el d T i off
 | .mp d=>bif bad d then .any else .mp d
 | .fn f c1 c2=>bif (c1.any fun x=>bad x.1)||(c2.any fun x=>bad x.1) then .any else .fn f c1 c2
 | .pair a b=>.pair (a.scrub bad) (b.scrub bad)
 | .tup a b=>.tup (a.scrub bad) (b.scrub bad)
 | .gd g w a=>.gd g w (a.scrub bad)
 | .any=>.any
 | .int k n=>.int k n
 | .bool b=>.bool b
 | .str s=>.str s
 | .nils=>.nils
 | .sl T xs=>.sl T xs
 | .tnil=>.tnil
 | .pt T x off=>.pt T x off
 | .bl t f=>.bl t f
 | .fd A B g=>.fd A B g
 | .osl d T i n=>bif bad d then .any else .osl d T i n
 | .psl d i n=>bif bad d then .any else .psl d i n
 | .md k V m=>.md k V m
 | .nilm=>.nilm
 | .nilf=>.nilf
def LE.scrub (bad:Nat->Bool):LE->LE
 | .cells c=>.cells (c.scrub bad)
 | .row e T xs=>.row e T xs
 | .froz T xs=>.froz T xs
 | .mapp k V m=>.mapp k V m
 | .frozm k V m=>.frozm k V m
 | .iter k V l c=>.iter k V l c
 | .mapo k V m x c=>.mapo k V m x (c.scrub bad)
 | .dead=>.dead
 | .frame tm env=>.frame tm (fun s=>(env s).scrub bad)
theorem ke {bad:Nat->Bool} {β β':Nat->Value} (h:∀ d,bad d=false->β' d=β d):∀ (c:List (Nat×Nat)) (vs:List Value),(c.any fun x=>bad x.1)=false->ir β c vs->ir β' c vs
 | [],_,_,h'=>h'
 | (d,off)::c,_,hb,⟨b,rest,e,hd,hr⟩=>by
  simp only [Sa,Rn] at hb;exact ⟨b,rest,e,(h d hb.1).trans hd,ke h c rest hb.2 hr⟩
theorem AV.one_scrub {p:PH} {bad:Nat->Bool} {β β':Nat->Value} (h:∀ d,bad d=false->β' d=β d) (a:AV) (v:Value) (ha:a.one p β v):(a.scrub bad).one p β' v:=by
 cases a <;> simp only [AV.scrub] <;> try (simp only [AV.one] at ha |- <;> exact ha)
 case own d=>cases hb:bad d <;> simp only [QS,QB,AV.one] at ha |-; exact ha.trans (h d hb).symm
 case loc d off=>cases hb:bad d <;> simp only [QS,QB,AV.one] at ha |-; obtain ⟨b,e,e2⟩:=ha; exact ⟨b,(h d hb).trans e,e2⟩
 case el d T i off=>cases hb:bad d <;> simp only [QS,QB,AV.one] at ha |-; obtain ⟨b,e,e2⟩:=ha; exact ⟨b,by rw [h d hb]; exact e,e2⟩
 case psl d i n =>
  cases hb:bad d <;> simp only [QS,QB,AV.one] at ha |-;rcases ha with ⟨b,c,e,e2⟩ | ha
  ·exact .inl ⟨b,c,(h d hb).trans e,e2⟩
  ·exact .inr ha
 case osl d T i n =>
  cases hb:bad d <;> simp only [QS,QB,AV.one] at ha |-;rcases ha with ⟨b,m,c,c',e,e2⟩ | ha
  ·exact .inl ⟨b,m,c,c',(h d hb).trans e,e2⟩
  ·exact .inr ha
 case mp d=>cases hb:bad d <;> simp only [QS,QB,AV.one] at ha |-; exact ha.trans (h d hb).symm
 case fn f c1 c2 =>
  cases hb:(c1.any fun x=>bad x.1)||(c2.any fun x=>bad x.1) <;> simp only [QS,QB,AV.one] at ha |-;simp only [Rn] at hb;obtain ⟨v1,v2,e,h1,h2⟩:=ha;exact ⟨v1,v2,e,ke h _ _ hb.1 h1,ke h _ _ hb.2 h2⟩
theorem AV.cells_leaf {p:PH} {β:Nat->Value} (a:AV) (hp:∀ x y,a≠.pair x y) (cs:List Value):a.cells p β cs ↔ ∃ v,cs=[v]/\a.one p β v:=by
 constructor
 ·intro h;cases a <;> (first | exact absurd rfl (hp _ _) | skip) <;> (match cs,h with | [v],h=>exact ⟨v,rfl,h⟩)
 ·rintro ⟨v,rfl,h⟩;cases a <;> (first | exact absurd rfl (hp _ _) | exact h)
theorem AV.scrub_pair {bad:Nat->Bool} (a:AV) (hp:∀ x y,a≠.pair x y):∀ x y,a.scrub bad≠.pair x y:=by
 intro x y e;cases a <;> simp only [AV.scrub] at e <;> first | (exact absurd rfl (hp _ _)) | cases e | (revert e; cases bad _ <;> intro e <;> cases e) | (revert e; cases (_||_) <;> intro e <;> cases e)
theorem AV.cells_scrub {p:PH} {bad:Nat->Bool} {β β':Nat->Value} (h:∀ d,bad d=false->β' d=β d):∀ (a:AV) (cs:List Value),a.cells p β cs->(a.scrub bad).cells p β' cs:=by
 intro a
 induction a with
 | pair a b _ ih2 =>
  intro cs hc
  match cs,hc with
  | v::cs,hc=>exact ⟨AV.one_scrub h a v hc.1,ih2 cs hc.2⟩
 | _ =>
  intro cs hc;obtain ⟨v,e,hv⟩:=(AV.cells_leaf _ (by intro x y e; cases e) cs).1 hc;exact (AV.cells_leaf _ (AV.scrub_pair _ (by intro x y e; cases e)) cs).2 ⟨v,e,AV.one_scrub h _ v hv⟩
theorem AV.val1_leaf {p:PH} {β:Nat->Value} (a:AV) (hp:∀ x y,a≠.pair x y) (v:Value):a.val1 p β v ↔ a.one p β v:=by
 cases a <;> (first | exact absurd rfl (hp _ _) | exact Iff.rfl)
theorem AV.val1_scrub {p:PH} {bad:Nat->Bool} {β β':Nat->Value} (h:∀ d,bad d=false->β' d=β d) (a:AV) (v:Value) (ha:a.val1 p β v):(a.scrub bad).val1 p β' v:=by
 by_cases hp:∀ x y,a≠.pair x y
 ·exact (AV.val1_leaf _ (AV.scrub_pair a hp) v).2 (AV.one_scrub h a v ((AV.val1_leaf a hp v).1 ha))
 ·cases a <;> (first | (exfalso; apply hp; intro x y e; cases e; done) | skip);obtain ⟨cs,e,hc⟩:=ha;exact ⟨cs,e,AV.cells_scrub h _ _ hc⟩
theorem AV.vals_scrub {p:PH} {bad:Nat->Bool} {β β':Nat->Value} (h:∀ d,bad d=false->β' d=β d):∀ (a:AV) (vs:List Value),a.vals p β vs->(a.scrub bad).vals p β' vs:=by
 intro a
 induction a with
 | tup a b _ ih2 =>
  intro vs hv
  match vs,hv with
  | v::vs,hv=>exact ⟨AV.val1_scrub h a v hv.1,ih2 vs hv.2⟩
 | tnil=>intro vs hv; cases vs <;> exact hv
 | _=>intro vs hv; simp [AV.vals] at hv
theorem AV.val_scrub {p:PH} {bad:Nat->Bool} {β β':Nat->Value} {tm:Array Value} (h:∀ d,bad d=false->β' d=β d):∀ (a:AV) (v:Value),a.val p β tm v->(a.scrub bad).val p β' tm v:=by
 intro a
 induction a with
 | gd g w a ih =>
  intro v ha;rcases ha with ⟨e,ha⟩ | ha
  ·exact .inl ⟨e,ih v ha⟩
  ·exact .inr ha
 | tup a b =>
  intro v ha;obtain ⟨vs,e,hv⟩:=ha;exact ⟨vs,e,AV.vals_scrub h _ _ hv⟩
 | tnil=>intro v ha; exact ha
 | pair a b=>intro v ha; exact AV.val1_scrub h _ v ha
 | _ =>
  intro v ha;have hs:=AV.val1_scrub h _ v ha;simp only [AV.scrub] at hs |-
  first
   | exact hs
   | (revert hs; cases bad _ <;> exact fun hs=>hs)
   | (revert hs; cases (_||_) <;> exact fun hs=>hs)
theorem LE.sat_scrub {p:PH} {bad:Nat->Bool} {β β':Nat->Value} {w:World} (h:∀ d,bad d=false->β' d=β d) (d:Nat) (hd:bad d=false) (e:LE) (he:e.sat p β w d):(e.scrub bad).sat p β' w d:=by
 cases e with
 | cells c=>obtain ⟨b,cs,t,e1,e2,e3⟩:=he; exact ⟨b,cs,t,(h d hd).trans e1,e2,AV.cells_scrub h _ _ e3⟩
 | row e T xs=>simpa only [LE.scrub,LE.sat,h d hd] using he
 | froz T xs=>simpa only [LE.scrub,LE.sat,h d hd] using he
 | mapp k V m=>simpa only [LE.scrub,LE.sat,h d hd] using he
 | frozm k V m=>simpa only [LE.scrub,LE.sat,h d hd] using he
 | iter k V l c=>simpa only [LE.scrub,LE.sat,h d hd] using he
 | mapo k V m x c =>
  obtain ⟨r,es,clock,e1,e2,e3,e4,e5⟩:=he;refine ⟨r,es,clock,(h d hd).trans e1,e2,e3,e4,ci (fun o v hv=>?_) _ _ e5⟩;cases o with
  | some y=>exact hv
  | none=>exact AV.one_scrub h c v hv
 | dead=>trivial
 | frame tm env=>exact fun s=>AV.val_scrub h _ _ (he s)
def AV.killG (d:Nat):AV->AV
 | .gd g w a=>bif Nat.beq g d then .any else .gd g w (a.killG d)
 | a=>a
theorem AV.val_killG {p:PH} {β:Nat->Value} {tm:Array Value} {d:Nat} {x:Value}:∀ (a:AV) (v:Value),a.val p β tm v->(a.killG d).val p β (tm.setIfInBounds d x) v:=by
 intro a
 induction a with
 | gd g w a ih =>
  intro v ha;simp only [AV.killG];cases hb:Nat.beq g d
  ·have hne:d≠g:=by intro e; subst e; simp at hb
   have e:(tm.setIfInBounds d x).getD g undef=tm.getD g undef:=by simp [Array.getElem?_setIfInBounds_ne hne]
   simp only [QB,AV.val,e];rcases ha with ⟨e,ha⟩ | ha
   ·exact .inl ⟨e,ih v ha⟩
   ·exact .inr ha
  ·trivial
 | _=>intro v ha; exact ha
def St.set (S:St) (d:Nat) (a:AV):St:={ S with env:=fun s=>bif Nat.beq s d then a else (S.env s).killG d }
theorem dP {tm:Array Value} {d s:Nat} {x:Value} (h:s≠d):(tm.setIfInBounds d x).getD s undef=tm.getD s undef:=by
 simp [Array.getElem?_setIfInBounds_ne (Ne.symm h)]
theorem mP {tm:Array Value} {d:Nat} {x:Value} (h:d<tm.size):(tm.setIfInBounds d x).getD d undef=x:=by
 simp [h]
section
variable {M:Nat->Prop} {p0:PH} {w0:World} {S:St} {tm:Array Value} {w:World} {p:PH} {β:Nat->Value}
theorem SatB.set (h:SatB M p0 w0 S tm w p β) {d:Nat} {x:Value} {a:AV} (hd:d<S.n) (ha:a.val p β (tm.setIfInBounds d x) x):SatB M p0 w0 (S.set d a) (tm.setIfInBounds d x) w p β where
 keep:=h.keep
 agr:=h.agr
 old:=h.old
 size:=by simpa [St.set] using h.size
 lhs:=h.lhs
 owns:=h.owns
 inj:=h.inj
 env:=by
  intro s;by_cases e:s=d
  ·subst e;rw [mP (by rw [h.size]; exact hd)];simpa [St.set] using ha
  ·rw [dP e]
   have hb:Nat.beq s d=false:=by
    cases hb:Nat.beq s d
    ·rfl
    ·exact absurd (CC hb) e
   simp only [St.set,hb,QB];exact AV.val_killG _ _ (h.env s)
theorem A1 {w w':World} {base:Nat} {e:TypeId} {size n:Nat} {v:Value} {l:List Value} (h:w.ownsRow base e size v n l) (hb:∀ b,b8 v=some b->w'.heap[b]?=w.heap[b]?):w'.ownsRow base e size v n l:=by
 refine ⟨h.1,?_⟩;rcases h.2 with h | ⟨g,cap,cur,rfl,h1,h2,h3⟩
 ·exact .inl h
 ·exact .inr ⟨g,cap,cur,rfl,h1,(hb g rfl).trans h2,h3⟩
theorem LE.sat_world {w':World} (d:Nat) (e:LE) (he:e.sat p β w d) (hb:∀ b,e.live=true->b8 (β d)=some b->w'.heap[b]?=w.heap[b]?):e.sat p β w' d:=by
 cases e with
 | cells c=>obtain ⟨b,cs,t,e1,e2,e3⟩:=he; exact ⟨b,cs,t,e1,(hb b rfl (by rw [e1]; rfl)).trans e2,e3⟩
 | row e T xs=>obtain ⟨l,h1,h2,h3⟩:=he; exact ⟨l,A1 h1 (fun b hbb=>hb b rfl hbb),h2,h3⟩
 | froz T xs=>exact he
 | mapp k V m=>obtain ⟨r,es,clock,e1,e2,e3⟩:=he; exact ⟨r,es,clock,e1,(hb r rfl (by rw [e1]; rfl)).trans e2,e3⟩
 | frozm k V m=>exact he
 | mapo k V m x c=>obtain ⟨r,es,clock,e1,e2,e3⟩:=he; exact ⟨r,es,clock,e1,(hb r rfl (by rw [e1]; rfl)).trans e2,e3⟩
 | iter k V l c=>obtain ⟨r,bm,since,seen,c0,es,clock,e1,e2,e3⟩:=he; exact ⟨r,bm,since,seen,c0,es,clock,e1,(hb r rfl (by rw [e1]; rfl)).trans e2,e3⟩
 | dead=>trivial
 | frame tm env=>exact he
theorem LE.sat_lt (d:Nat) (e:LE) (hl:e.live=true) (he:e.sat p β w d) {b:Nat} (hb:b8 (β d)=some b):b<w.heap.size:=by
 cases e with
 | cells c =>
  obtain ⟨b',cs,t,e1,e2,e3⟩:=he;rw [e1] at hb;injection hb with hb
  subst hb;exact (Array.getElem?_eq_some_iff.1 e2).1
 | row e T xs =>
  obtain ⟨l,h1,h2,h3⟩:=he;rcases h1.2 with ⟨e1,_⟩ | ⟨g,cap,cur,e1,_,h5,_⟩
  ·rw [e1] at hb; cases hb
  ·rw [e1] at hb;injection hb with hb
   subst hb;exact (Array.getElem?_eq_some_iff.1 h5).1
 | mapp k V m =>
  obtain ⟨r,es,clock,e1,e2,_⟩:=he;rw [e1] at hb;injection hb with hb
  subst hb;exact (Array.getElem?_eq_some_iff.1 e2).1
 | mapo k V m x c =>
  obtain ⟨r,es,clock,e1,e2,_⟩:=he;rw [e1] at hb;injection hb with hb
  subst hb;exact (Array.getElem?_eq_some_iff.1 e2).1
 | iter k V l c =>
  obtain ⟨r,bm,since,seen,c0,es,clock,e1,e2,_⟩:=he;rw [e1] at hb;injection hb with hb
  subst hb;exact (Array.getElem?_eq_some_iff.1 e2).1
 | froz T xs=>cases hl
 | frozm k V m=>cases hl
 | dead=>cases hl
 | frame tm env=>cases hl
theorem Agrees.lt (h:Agrees p w) {b:Nat} {cs:Blk} (hb:p b=some cs):b<w.heap.size:=by
 have h1:=h b cs hb;cases cs with
 | cells cs=>obtain ⟨t,fz,e⟩:=h1; exact (Array.getElem?_eq_some_iff.1 e).1
 | map es c=>exact (Array.getElem?_eq_some_iff.1 (show w.heap[b]?=some (.map es c) from h1)).1
theorem Keep.trans_grow {w':World} (h:Keep M w0 w) (ho:w'.os=w.os) (ht:w'.tape=w.tape) (hp:w'.output=w.output) (hs:w.heap.size<=w'.heap.size)
  (hb:∀ b,b<w.heap.size->¬ M b->b<w0.heap.size->w'.heap[b]?=w.heap[b]?):Keep M w0 w' :=
 ⟨ho.trans h.os,ht.trans h.tape,hp.trans h.output,Ra h.size hs,fun i hi hm=>(hb i (Rp hi h.size) hm hi).trans (h.block i hi hm)⟩
theorem SatB.grow (h:SatB M p0 w0 S tm w p β) {w':World} (ho:w'.os=w.os) (ht:w'.tape=w.tape) (hp:w'.output=w.output) (hs:w.heap.size<=w'.heap.size)
  (hb:∀ b,b<w.heap.size->w'.heap[b]?=w.heap[b]?):SatB M p0 w0 S tm w' p β where
 keep:=h.keep.trans_grow ho ht hp hs (fun b hb' _ _=>hb b hb')
 agr:=fun b cs hbc=>by rw [hb b (h.agr.lt hbc)]; exact h.agr b cs hbc
 old:=h.old
 size:=h.size
 lhs:=fun d e he=>LE.sat_world d e (h.lhs d e he) (fun b hl hbb=>hb b (LE.sat_lt d e hl (h.lhs d e he) hbb))
 owns:=h.owns
 inj:=h.inj
 env:=h.env
theorem SatB.more (h:SatB M p0 w0 S tm w p β) {q:PH} (hpq:PH.le p q) (hq:Agrees q w) (hold:∀ b cs,q b=some cs->p b=some cs\/w0.heap.size<=b\/M b) (hown:∀ d e b,S.lh d=some e->e.live=true->b8 (β d)=some b->q b=none):SatB M p0 w0 S tm w q β where
 keep:=h.keep
 agr:=hq
 old:=fun b cs hb=>by
  rcases hold b cs hb with h1 | h1
  ·exact h.old b cs h1
  ·exact h1.imp id .inl
 size:=h.size
 lhs:=fun d e he=>by
  have:=h.lhs d e he;cases e with
  | cells c=>obtain ⟨b,cs,t,e1,e2,e3⟩:=this; exact ⟨b,cs,t,e1,e2,AV.cells_mono hpq _ _ e3⟩
  | row e T xs=>obtain ⟨l,h1,h2,h3⟩:=this; exact ⟨l,h1,c8 (fun x cs=>Ty.holds_mono hpq T x cs) _ _ h2,h3⟩
  | froz T xs=>exact Ty.holds_mono hpq _ _ _ this
  | mapp k V m=>obtain ⟨r,es,clock,e1,e2,e3,e4⟩:=this; exact ⟨r,es,clock,e1,e2,e3,ci (fun x _=>dJ (fun cs=>Ty.holds_mono hpq V x cs)) _ _ e4⟩
  | frozm k V m=>exact Ty.holds_mono hpq _ _ _ this
  | mapo k V m x c =>
   obtain ⟨r,es,clock,e1,e2,e3,e4,e5⟩:=this;refine ⟨r,es,clock,e1,e2,e3,e4,ci (fun o v hv=>?_) _ _ e5⟩;cases o with
   | some y=>exact dJ (fun cs=>Ty.holds_mono hpq V y cs) hv
   | none=>exact AV.one_mono hpq c v hv
  | iter k V l c =>
   obtain ⟨r,bm,since,seen,c0,es,clock,e1,e2,e3,e4,e5,e6,e7,e8,e9⟩:=this
   exact ⟨r,bm,since,seen,c0,es,clock,e1,e2,hpq _ _ e3,e4,e5,e6,e7,ci (fun x _=>dJ (fun cs=>Ty.holds_mono hpq V x cs)) _ _ e8,fun x hx=>by
    obtain ⟨e,he,s0,f1,f2,f3,f4,f5⟩:=e9 x hx;exact ⟨e,he,s0,f1,f2,f3,f4,dJ (fun cs=>Ty.holds_mono hpq V _ cs) f5⟩⟩
  | dead=>trivial
  | frame tm env=>exact fun s=>AV.val_mono hpq _ _ (this s)
 owns:=fun d e b he hl hb=>⟨(h.owns d e b he hl hb).1,hown d e b he hl hb⟩
 inj:=h.inj
 env:=fun s=>AV.val_mono hpq _ _ (h.env s)
def St.scrub (S:St) (bad:Nat->Bool):St :=
 { S with env:=fun s=>(S.env s).scrub bad,lh:=fun d=>bif bad d then none else (S.lh d).map (LE.scrub bad) }
theorem LE.scrub_live (bad:Nat->Bool) (e:LE):(e.scrub bad).live=e.live:=by cases e <;> rfl
theorem SatB.scrub (h:SatB M p0 w0 S tm w p β) {bad:Nat->Bool} {β':Nat->Value} (hβ:∀ d,bad d=false->β' d=β d):SatB M p0 w0 (S.scrub bad) tm w p β':=by
 have key:∀ d e,(S.scrub bad).lh d=some e->bad d=false/\∃ e0,S.lh d=some e0/\e=e0.scrub bad:=by
  intro d e he;simp only [St.scrub] at he;cases hb:bad d
  ·rw [hb] at he;simp only [QB,Dm] at he;obtain ⟨e0,h1,h2⟩:=he;exact ⟨rfl,e0,h1,h2.symm⟩
  ·rw [hb] at he; cases he
 refine ⟨h.keep,h.agr,h.old,h.size,?_,?_,?_,fun s=>AV.val_scrub hβ _ _ (h.env s)⟩
 ·intro d e he;obtain ⟨hb,e0,h1,rfl⟩:=key d e he;exact LE.sat_scrub hβ d hb e0 (h.lhs d e0 h1)
 ·intro d e b he hl hbb;obtain ⟨hb,e0,h1,rfl⟩:=key d e he;rw [LE.scrub_live] at hl;rw [hβ d hb] at hbb;exact h.owns d e0 b h1 hl hbb
 ·intro d d' e e' b he hl he' hl' hbb hbb';obtain ⟨hb,e0,h1,rfl⟩:=key d e he;obtain ⟨hb',e0',h1',rfl⟩:=key d' e' he';rw [LE.scrub_live] at hl hl';rw [hβ d hb] at hbb;rw [hβ d' hb'] at hbb';exact h.inj d d' e0 e0' b h1 hl h1' hl' hbb hbb'
def St.entry (S:St) (d:Nat) (e:LE):St:={ S with lh:=fun x=>bif Nat.beq x d then some e else S.lh x }
theorem cj {a b:Nat} (h:a≠b):Nat.beq a b=false:=by
 cases hb:Nat.beq a b
 ·rfl
 ·exact absurd (CC hb) h
theorem eB (a:Nat):Nat.beq a a=true:=by simp
theorem SatB.entry (h:SatB M p0 w0 S tm w p β) {d:Nat} {e:LE} (hs:e.sat p β w d)
  (ho:∀ b,e.live=true->b8 (β d)=some b->(M b\/w0.heap.size<=b)/\p b=none)
  (hi:∀ d' e' b,d'≠d->e.live=true->S.lh d'=some e'->e'.live=true->b8 (β d)=some b->b8 (β d')≠some b):SatB M p0 w0 (S.entry d e) tm w p β:=by
 refine ⟨h.keep,h.agr,h.old,h.size,?_,?_,?_,h.env⟩
 ·intro x e' he;by_cases hx:x=d
  ·subst hx;simp only [St.entry,eB,QS,pS] at he;subst he; exact hs
  ·simp only [St.entry,cj hx,QB] at he;exact h.lhs x e' he
 ·intro x e' b he hl hb;by_cases hx:x=d
  ·subst hx;simp only [St.entry,eB,QS,pS] at he;subst he; exact ho b hl hb
  ·simp only [St.entry,cj hx,QB] at he;exact h.owns x e' b he hl hb
 ·intro x x' e1 e2 b he hl he' hl' hb hb';by_cases hx:x=d <;> by_cases hx':x'=d
  ·rw [hx,hx']
  ·subst hx;simp only [St.entry,eB,QS,pS] at he;simp only [St.entry,cj hx',QB] at he';subst he;exact absurd hb' (hi x' e2 b hx' hl he' hl' hb)
  ·subst hx';simp only [St.entry,eB,QS,pS] at he';simp only [St.entry,cj hx,QB] at he;subst he';exact absurd hb (hi x e1 b hx hl' he hl hb')
  ·simp only [St.entry,cj hx,QB] at he;simp only [St.entry,cj hx',QB] at he';exact h.inj x x' e1 e2 b he hl he' hl' hb hb'
def St.fresh (S:St) (d:Nat) (e:LE):St:=(S.scrub (fun x=>Nat.beq x d)).entry d e
theorem SatB.fresh (h:SatB M p0 w0 S tm w p β) {d:Nat} {e:LE} {v:Value}
  (hs:e.sat p (fun x=>if x=d then v else β x) w d)
  (ho:∀ b,e.live=true->b8 v=some b->(M b\/w0.heap.size<=b)/\p b=none)
  (hi:∀ d' e' b,d'≠d->e.live=true->S.lh d'=some e'->e'.live=true->b8 v=some b->b8 (β d')≠some b):SatB M p0 w0 (S.fresh d e) tm w p (fun x=>if x=d then v else β x):=by
 have h1:SatB M p0 w0 (S.scrub (fun x=>Nat.beq x d)) tm w p (fun x=>if x=d then v else β x):=h.scrub (fun x hx=>by
  have:x≠d:=by intro e; subst e; simp at hx
  simp [this])
 refine h1.entry hs (fun b hl hb=>ho b hl (by simpa using hb)) ?_;intro d' e' b hne hl he hl' hb hb';have hx:Nat.beq d' d=false:=cj hne;simp only [St.scrub,hx,QB,Dm] at he;obtain ⟨e0,h2,rfl⟩:=he;rw [LE.scrub_live] at hl';simp only [hne,QW] at hb';exact hi d' e0 b hne hl h2 hl' (by simpa using hb) hb'
end
abbrev uw:=Option (List Prop×AV)
def PO (g:TypeId->Option Ty):List Field->Option Ty
 | []=>none
 | [f]=>g f.type
 | f::f2::fs=>match g f.type,PO g (f2::fs) with
  | some A,some B=>some (.pair A B)
  | _,_=>none
def xD (P:Program):Nat->TypeId->Option Ty
 | 0,_=>none
 | n+1,t=>match P.underlying t with
  | some (.int k)=>some (.int k)
  | some .bool=>some .bool
  | some .string=>some .str
  | some (.slice e)=>(xD P n e).map .arr
  | some (.struct fs)=>PO (xD P n) fs.toList
  | some (.map kt e)=>match P.underlying kt with
   | some (.int k)=>(xD P n e).map (.map k)
   | _=>none
  | _=>none
def mh (k:IntKind) (n:Int):List Prop:=if k.signed then [0<=n] else []
def qY (op:BinOp) (k:IntKind) (a b:Int):uw :=
 match op with
 | .shl=>some ([0<=b,b<(k.bits:Int)],.int k (k.wrap (a * 2 ^ b.toNat)))
 | .shr=>some (mh k a++[0<=b,b<(k.bits:Int)],.int k (a / 2 ^ b.toNat))
 | _=>none
def G4 (P:Program) (t:TypeId):Bool:=match P.underlying t with | some .bool=>true | _=>false
theorem Kr {P:Program} {t:TypeId} (h:G4 P t=true):P.underlying t=some .bool:=by
 unfold G4 at h; split at h
 ·assumption
 ·cases h
def MW (P:Program) (t:TypeId) (op:BinOp) (x y:AV):uw :=
 match x,y with
 | .int k a,.int k' b =>
  if k=k' then
   match op with
   | .add=>some ([ak k (a+b)],.int k (a+b))
   | .sub=>some ([ak k (a - b)],.int k (a - b))
   | .mul=>some ([ak k (a * b)],.int k (a * b))
   | .quo=>some ([0<=a,0<b],.int k (a / b))
   | .rem=>some ([0<=a,0<b],.int k (a % b))
   | .eql=>some ([],.bool (decide (a=b)))
   | .neq=>some ([],.bool (decide (a≠b)))
   | .lss=>some ([],.bool (decide (a<b)))
   | .leq=>some ([],.bool (decide (a<=b)))
   | .gtr=>some ([],.bool (decide (b<a)))
   | .geq=>some ([],.bool (decide (b<=a)))
   | .and=>some (mh k a++mh k b,.int k ((a.toNat &&& b.toNat:Nat):Int))
   | .or=>some (mh k a++mh k b,.int k ((a.toNat ||| b.toNat:Nat):Int))
   | .xor=>some (mh k a++mh k b,.int k ((a.toNat ^^^ b.toNat:Nat):Int))
   | .shl=>qY op k a b
   | .shr=>qY op k a b
   | _=>none
  else qY op k a b
 | .bool a,.bool b =>
  if G4 P t=true then
   match op with
   | .eql=>some ([],.bool (a == b))
   | .neq=>some ([],.bool (!(a == b)))
   | _=>none
  else none
 | .str a,.str b =>
  match op with
  | .eql=>some ([],.bool (decide (a=b)))
  | .neq=>some ([],.bool (decide (a≠b)))
  | .add=>some ([a.length+b.length<=aK],.str (a++b))
  | _=>none
 | _,_=>none
section
variable {P:Program} {w:World} {p:PH} {β:Nat->Value} {tm:Array Value}
theorem ce {k:IntKind} {n:Int} {v:Value} (h:(AV.int k n).val p β tm v):v=.int k n/\ak k n:=h
theorem lB {b:Bool} {v:Value} (h:(AV.bool b).val p β tm v):v=.bool b:=h
theorem kE {s:List UInt8} {v:Value} (h:(AV.str s).val p β tm v):v=.string ⟨s.toArray⟩/\s.length<=aK:=h
def cB (P:Program) (s:Sem Value) (w:World) (p:PH) (β:Nat->Value) (tm:Array Value) (a:AV):Prop:=∃ v,s.run P w=.ok v w/\a.val p β tm v
theorem uK {k:IntKind} {a b:Int} (ha:ak k a) (h0:0<=a) (hb:0<b):ak k (a / b):=by
 have h1:a / b<=a:=Int.ediv_le_self b h0;have h2:0<=a / b:=Int.ediv_nonneg h0 (by omega);cases k <;> simp only [ak] at ha |- <;> omega
theorem Ln {k:IntKind} {a b:Int} (ha:ak k a) (h0:0<=a) (hb:0<b):ak k (a % b):=by
 have h1:a % b<=a:=by
  have:=Int.emod_add_mul_ediv a b;have h2:0<=b * (a / b):=Int.mul_nonneg (by omega) (Int.ediv_nonneg h0 (by omega));omega
 have h2:0<=a % b:=Int.emod_nonneg a (by omega);cases k <;> simp only [ak] at ha |- <;> omega
theorem NF {a b:List UInt8}:((⟨a.toArray⟩:ByteArray)=⟨b.toArray⟩) ↔ a=b:=by
 constructor
 ·intro h; injection h with h; injection h
 ·rintro rfl; rfl
theorem iD {k:IntKind} {n:Int} (h:ak k n) (hs:∀ q∈mh k n,q):0<=n:=by
 cases hk:k.signed
 ·cases k <;> simp only [ak] at h <;> first | omega | (cases hk; done)
 ·exact hs _ (by simp [mh,hk])
theorem gW {k:IntKind} {n:Int} (h:ak k n) (h0:0<=n):(BitVec.ofInt k.bits n).toNat=n.toNat:=by
 obtain ⟨m,rfl⟩:=Ro h0;rw [BitVec.ofInt_natCast,BitVec.toNat_ofNat,Q5];apply Nat.mod_eq_of_lt;cases k <;> simp only [ak,IntKind.bits] at h |- <;> omega
def Li (k:IntKind):Nat:=if k.signed then k.bits - 1 else k.bits
theorem Iq {k:IntKind} {m:Nat}:ak k (m:Int) ↔ m<2 ^ Li k:=by
 cases k <;> simp only [ak,Li,IntKind.signed,IntKind.bits,if_true,Qz,QW,Nat.reduceSub,Nat.reducePow] <;> omega
theorem toNat_lt {k:IntKind} {n:Int} (h:ak k n) (h0:0<=n):n.toNat<2 ^ Li k:=by
 apply Iq.1
 rwa [Sy h0]
theorem u5 {op:BinOp} {k:IntKind} {a b:Int} {r:Nat} (ha:ak k a) (hb:ak k b) (h0:0<=a) (h1:0<=b)
  (h:(op=.and/\r=a.toNat &&& b.toNat)\/(op=.or/\r=a.toNat ||| b.toNat)\/(op=.xor/\r=a.toNat ^^^ b.toNat)) :
  (Op.intBits op k a b).run P w=.ok (.int k (r:Int)) w/\ak k (r:Int):=by
 have la:=toNat_lt ha h0;have lb:=toNat_lt hb h1
 have hr:ak k (r:Int):=by
  apply Iq.2;rcases h with ⟨_,rfl⟩ | ⟨_,rfl⟩ | ⟨_,rfl⟩
  ·exact Nat.and_lt_two_pow _ lb
  ·exact Nat.or_lt_two_pow la lb
  ·exact Nat.xor_lt_two_pow la lb
 refine ⟨?_,hr⟩;have hw:=dC hr;rcases h with ⟨rfl,rfl⟩ | ⟨rfl,rfl⟩ | ⟨rfl,rfl⟩
 ·simp only [Op.intBits,QU,BitVec.toNat_and,gW ha h0,gW hb h1,hw]
 ·simp only [Op.intBits,QU,BitVec.toNat_or,gW ha h0,gW hb h1,hw]
 ·simp only [Op.intBits,QU,BitVec.toNat_xor,gW ha h0,gW hb h1,hw]
theorem ls {op:BinOp} {t:TypeId} {ox oy:Operand} {k k':IntKind} {a b:Int} {ps:List Prop} {r:AV} (h:qY op k a b=some (ps,r)) (hps:∀ q∈ps,q)
  (ha:ak k a):cB P (do eqGuard op t ox oy (.int k a) (.int k' b); binOp op t (.int k a) (.int k' b)) w p β tm r:=by
 unfold qY at h;split at h <;> simp only [pS,zn,reduceCtorEq] at h <;> obtain ⟨rfl,rfl⟩:=h
 ·have h1:0<=b:=hps _ (by simp);have h2:b<(k.bits:Int):=hps _ (by simp);have e:min b.toNat k.bits=b.toNat:=by omega
  refine ⟨_,?_,rfl,fP _ _⟩;simp only [eqGuard,binOp,Op.shift,if_neg (show ¬ b<0 by omega),e];rfl
 ·have h1:0<=b:=hps _ (by simp);have h2:b<(k.bits:Int):=hps _ (by simp);have h0:0<=a:=iD ha (fun q hq=>hps q (L3 _ hq));have e:min b.toNat k.bits=b.toNat:=by omega
  have hp:(0:Int)<2 ^ b.toNat:=Int.pow_pos (by omega);refine ⟨_,?_,rfl,uK ha h0 hp⟩;have e2:a.fdiv (2 ^ b.toNat)=a / 2 ^ b.toNat:=Int.fdiv_eq_ediv_of_nonneg _ (Int.le_of_lt hp);simp only [eqGuard,binOp,Op.shift,if_neg (show ¬ b<0 by omega),e,e2];rfl
theorem EL {op:BinOp} {t:TypeId} {ox oy:Operand} {x y:AV} {vx vy:Value} {ps:List Prop} {r:AV} (h:MW P t op x y=some (ps,r)) (hps:∀ q∈ps,q)
  (hx:x.val p β tm vx) (hy:y.val p β tm vy) :
  cB P (do eqGuard op t ox oy vx vy; binOp op t vx vy) w p β tm r:=by
 unfold MW at h;split at h
 ·rename_i k a k' b;obtain ⟨rfl,ha⟩:=ce hx;obtain ⟨rfl,hb⟩:=ce hy;split at h
  ·rename_i hk;subst hk;split at h
   case h_15=>exact ls h hps ha
   case h_16=>exact ls h hps ha
   case h_17=>cases h
   all_goals simp only [pS,zn] at h
   all_goals obtain ⟨rfl,rfl⟩:=h
   ·have h1:=hps _ (QJ); exact ⟨_,by simp [eqGuard,binOp,Op.intArith,go_sem]; rfl,by rw [dC h1]; exact ⟨rfl,h1⟩⟩
   ·have h1:=hps _ (QJ); exact ⟨_,by simp [eqGuard,binOp,Op.intArith,go_sem]; rfl,by rw [dC h1]; exact ⟨rfl,h1⟩⟩
   ·have h1:=hps _ (QJ); exact ⟨_,by simp [eqGuard,binOp,Op.intArith,go_sem]; rfl,by rw [dC h1]; exact ⟨rfl,h1⟩⟩
   ·have h1:=hps _ (QJ);have h2:=hps (0<b) (by simp);have h3:b≠0:=by omega
    refine ⟨.int k (a / b),?_,rfl,uK ha h1 h2⟩;simp [eqGuard,binOp,Op.intDiv,go_sem,h3];rw [Int.tdiv_eq_ediv_of_nonneg h1,dC (uK ha h1 h2)]
   ·have h1:=hps _ (QJ);have h2:=hps (0<b) (by simp);have h3:b≠0:=by omega
    refine ⟨.int k (a % b),?_,rfl,Ln ha h1 h2⟩;simp [eqGuard,binOp,Op.intDiv,go_sem,h3];rw [Int.tmod_eq_emod_of_nonneg h1]
   iterate 6
    refine ⟨_,by simp [eqGuard,binOp,Op.intCmp,go_sem]; rfl,?_⟩
    first
     | rfl
     | (show Value.bool _=Value.bool _; congr 1; rw [Ry]; simp)
   ·have h0:=iD ha (fun q hq=>hps q (L3 _ hq));have h1:=iD hb (fun q hq=>hps q (Qw _ hq));have hr:=u5 (P:=P) (w:=w) (op:=.and) ha hb h0 h1 (.inl ⟨rfl,rfl⟩);exact ⟨_,by simp only [eqGuard,binOp,ne_eq,not_true,QW]; exact hr.1,rfl,hr.2⟩
   ·have h0:=iD ha (fun q hq=>hps q (L3 _ hq));have h1:=iD hb (fun q hq=>hps q (Qw _ hq));have hr:=u5 (P:=P) (w:=w) (op:=.or) ha hb h0 h1 (.inr (.inl ⟨rfl,rfl⟩));exact ⟨_,by simp only [eqGuard,binOp,ne_eq,not_true,QW]; exact hr.1,rfl,hr.2⟩
   ·have h0:=iD ha (fun q hq=>hps q (L3 _ hq));have h1:=iD hb (fun q hq=>hps q (Qw _ hq));have hr:=u5 (P:=P) (w:=w) (op:=.xor) ha hb h0 h1 (.inr (.inr ⟨rfl,rfl⟩));exact ⟨_,by simp only [eqGuard,binOp,ne_eq,not_true,QW]; exact hr.1,rfl,hr.2⟩
  ·exact ls h hps ha
 ·rename_i a b;obtain rfl:=lB hx;obtain rfl:=lB hy;split at h
  ·rename_i hb;have hu:=Kr hb;split at h <;> simp only [pS,zn,reduceCtorEq] at h <;> obtain ⟨rfl,rfl⟩:=h
   ·exact ⟨_,by simp [eqGuard,run_eql_bool w t a b hu],rfl⟩
   ·exact ⟨_,by simp [eqGuard,run_neq_bool w t a b hu],rfl⟩
  ·cases h
 ·rename_i a b;obtain ⟨rfl,ha⟩:=kE hx;obtain ⟨rfl,hb⟩:=kE hy;split at h <;> simp only [pS,zn,reduceCtorEq] at h <;> obtain ⟨rfl,rfl⟩:=h
  ·refine ⟨_,by simp [eqGuard,binOp,Op.stringOp,go_sem]; rfl,?_⟩;show Value.bool _=Value.bool _; congr 1; rw [Ry]; simp
  ·refine ⟨_,by simp [eqGuard,binOp,Op.stringOp,go_sem]; rfl,?_⟩;show Value.bool _=Value.bool _; congr 1; rw [Ry]; simp
  ·have h1:=hps _ (QJ);refine ⟨.string ⟨(a++b).toArray⟩,?_,rfl,by simpa using h1⟩;have hb:(a.length:Int)+(b.length:Int)<=9223372036854775807:=by simp only [aK] at h1; omega
   simp [eqGuard,binOp,Op.stringOp,go_sem,IntKind.max,IntKind.signed,IntKind.bits];rw [if_neg (by omega)];congr 2
 ·cases h
end
section
variable {P:Program} {w:World} {p:PH} {β:Nat->Value} {tm:Array Value}
theorem AV.one_cells {a:AV} {v:Value} (h:a.one p β v):a.cells p β [v]:=by
 cases a <;> first | exact h | exact h.elim
theorem AV.cells_drop:∀ (k:Nat) (a:AV) (cs:List Value),a.cells p β cs->k<cs.length->(a.drop k).cells p β (cs.drop k)
 | 0,_,_,h,_=>h
 | k+1,a,cs,h,hk=>by
  by_cases hp:∀ x y,a≠.pair x y
  ·obtain ⟨v,rfl,_⟩:=(AV.cells_leaf a hp cs).1 h;simp at hk
  ·cases a <;> (first | (exfalso; apply hp; intro x y e; cases e; done) | skip);rename_i x y
   match cs,h with
   | v::cs,h=>exact AV.cells_drop k y cs h.2 (by simpa using hk)
theorem AV.cells_take:∀ (n:Nat) (a:AV) (cs:List Value),a.cells p β cs->0<n->n<=cs.length->(a.take n).cells p β (cs.take n)
 | 0,_,_,_,h,_=>absurd h (by omega)
 | 1,a,cs,h,_,hn=>by
  by_cases hp:∀ x y,a≠.pair x y
  ·obtain ⟨v,rfl,hv⟩:=(AV.cells_leaf a hp cs).1 h;cases a <;> (first | exact absurd rfl (hp _ _) | exact h)
  ·cases a <;> (first | (exfalso; apply hp; intro x y e; cases e; done) | skip)
   match cs,h with
   | v::cs,h=>exact AV.one_cells h.1
 | n+2,a,cs,h,_,hn=>by
  by_cases hp:∀ x y,a≠.pair x y
  ·obtain ⟨v,rfl,hv⟩:=(AV.cells_leaf a hp cs).1 h;simp at hn
  ·cases a <;> (first | (exfalso; apply hp; intro x y e; cases e; done) | skip);rename_i x y
   match cs,h with
   | v::cs,h=>exact ⟨h.1,AV.cells_take (n+1) y cs h.2 (by omega) (by simpa using hn)⟩
theorem AV.cells_app:∀ (a b:AV) (c1 c2:List Value),a.cells p β c1->b.cells p β c2->(a.app b).cells p β (c1++c2):=by
 intro a
 induction a with
 | pair x y _ ih =>
  intro b c1 c2 h1 h2
  match c1,h1 with
  | v::c1,h1=>exact ⟨h1.1,ih b c1 c2 h1.2 h2⟩
 | _ =>
  intro b c1 c2 h1 h2;obtain ⟨v,rfl,hv⟩:=(AV.cells_leaf _ (by intro x y e; cases e) c1).1 h1;exact ⟨hv,h2⟩
theorem Ty.av_cells:∀ (T:Ty) (x:T.den) (cs:List Value),T.holds p x cs->(T.av x).cells p β cs
 | .int _,_,_,⟨e,h⟩=>by subst e; exact ⟨rfl,h⟩
 | .bool,_,_,e=>by simp only [Ty.holds] at e; subst e; exact rfl
 | .str,_,_,⟨e,h⟩=>by subst e; exact ⟨rfl,h⟩
 | .arr T,xs,cs,h=>by
  obtain ⟨A,c,l,e,hr⟩:=h;subst e;exact ⟨A,c,l,rfl,hr⟩
 | .nil,_,_,e=>by simp only [Ty.holds] at e; subst e; exact rfl
 | .ref T,x,_,⟨b,o,l,e,h1,h2⟩=>by subst e; exact ⟨b,o,l,rfl,h1,h2⟩
 | .fn A B,_,_,h=>by
  have h':=h;obtain ⟨f,v1,v2,e,_⟩:=h';subst e;exact h
 | .map _ _,_,_,h=>by
  have h':=h;rcases h' with ⟨e,_⟩ | ⟨_,_,_,e,_⟩ <;> subst e <;> exact h
 | .pair A B,_,_,⟨c1,c2,e,h1,h2⟩=>by subst e; exact AV.cells_app _ _ _ _ (Ty.av_cells A _ _ h1) (Ty.av_cells B _ _ h2)
theorem AV.val_of_cells_agg {a:AV} {cs:List Value} (h:a.cells p β cs) (hn:2<=cs.length):a.val p β tm (.agg cs.toArray):=by
 by_cases hp:∀ x y,a≠.pair x y
 ·obtain ⟨v,rfl,_⟩:=(AV.cells_leaf a hp cs).1 h;simp at hn
 ·cases a <;> (first | (exfalso; apply hp; intro x y e; cases e; done) | skip);exact ⟨_,rfl,by simpa using h⟩
theorem AV.val_of_one {a:AV} {v:Value} (h:a.one p β v):a.val p β tm v:=by
 cases a <;> first | exact h | exact h.elim
theorem AV.val_of_cells_one {a:AV} {v:Value} (h:a.cells p β [v]):a.val p β tm v:=by
 by_cases hp:∀ x y,a≠.pair x y
 ·obtain ⟨v',e,hv⟩:=(AV.cells_leaf a hp _).1 h;injection e with e _
  subst e;exact AV.val_of_one hv
 ·cases a <;> (first | (exfalso; apply hp; intro x y e; cases e; done) | skip);rename_i x y;exact absurd h.2 (by cases y <;> simp [AV.cells])
theorem kK (b o:Nat):∀ (cs:List Value) (i:Nat) (acc:Array Value),(∀ j u,cs[j]?=some u->w.cell? ⟨b,o+i+j,none⟩=some u) ->
  (loadCellsFrom ⟨b,o,none⟩ i cs.length acc).run P w=.ok (acc++cs.toArray) w
 | [],_,_,_=>by simp [loadCellsFrom]
 | c::cs,i,acc,h=>by
  have h0:=h 0 c (by simp);have hadd:(⟨b,o,none⟩:Addr).add i=⟨b,o+i+0,none⟩:=by unfold Addr.add; split <;> simp_all
  have ih:=kK b o cs (i+1) (acc.push c) (fun j u hu=>by
   have:=h (j+1) u (by simpa using hu);rw [<- this]; congr 2; omega)
  simp only [HN,loadCellsFrom,QL,hadd];simp only [load,Sem.run,h0,QC];rw [ih];simp
def fp (P:Program) (t:TypeId):Option Nat :=
 match P.info? t with
 | none=>none
 | some i=>match P.underlying t with
  | some (.struct _)=>if Nat.ble 2 i.size then some i.size else none
  | some (.array _ _)=>if Nat.ble 2 i.size then some i.size else none
  | some _=>if Nat.beq i.size 1 then some 1 else none
  | none=>none
theorem gq {t:TypeId} {n:Nat} (h:fp P t=some n) {a:AV} {b o:Nat} {cs:List Value} (ha:a.cells p β cs) (hl:cs.length=n)
  (hc:∀ j u,cs[j]?=some u->w.cell? ⟨b,o+j,none⟩=some u):∃ v,(Instr.loadAt t (.pointer (some ⟨b,o,none⟩))).run P w=.ok v w/\a.val p β tm v:=by
 unfold fp at h;split at h
 ·cases h
 rename_i i hi;have hrow:=kK (P:=P) (w:=w) b o cs 0 #[] (by simpa using hc)
 have one:∀ (d:TypeDesc),P.underlying t=some d->(isAgg t).run P w=.ok false w->i.size=1->n=1->∃ v,(Instr.loadAt t (.pointer (some ⟨b,o,none⟩))).run P w=.ok v w/\a.val p β tm v:=by
  intro d hd hag hs hn;subst hn
  match cs,hl with
  | [v],_ =>
   have h0:=hc 0 v (by simp);refine ⟨v,?_,AV.val_of_cells_one ha⟩;simp only [RQ] at h0;simp [Instr.loadAt,Instr.sureAddr,loadVar,hag,load,Sem.run,h0]
 split at h
 ·rename_i fs hu;split at h
  ·injection h with h
   rename_i h2;have h2':=QE h2;refine ⟨.agg cs.toArray,?_,AV.val_of_cells_agg ha (by omega)⟩;have hag:(isAgg t).run P w=.ok true w:=by simp [isAgg,QM hu]
   rw [<- h] at hl;simp [Instr.loadAt,Instr.sureAddr,loadVar,hag,sizeOf,typeInfo,hi,loadCells,<- hl,hrow]
  ·cases h
 ·rename_i k e hu;split at h
  ·injection h with h
   rename_i h2;have h2':=QE h2;refine ⟨.agg cs.toArray,?_,AV.val_of_cells_agg ha (by omega)⟩;have hag:(isAgg t).run P w=.ok true w:=by simp [isAgg,QM hu]
   rw [<- h] at hl;simp [Instr.loadAt,Instr.sureAddr,loadVar,hag,sizeOf,typeInfo,hi,loadCells,<- hl,hrow]
  ·cases h
 ·rename_i d hZ hd2 hu;split at h
  ·rename_i h2;injection h with h
   refine one d hu ?_ (CC h2) h.symm
   have:∀ d',P.underlying t=some d'->(∀ fs,d'≠.struct fs)->(∀ k e,d'≠.array k e)->(isAgg t).run P w=.ok false w:=by
    intro d' hu' h1 h2;cases d' <;> simp [isAgg,QM hu'] <;> first | exact absurd rfl (h1 _) | exact absurd rfl (h2 _ _)
   exact this d hu (fun fs e=>hZ fs (by rw [e])) (fun k e e2=>hd2 k e (by rw [e2]))
  ·cases h
 ·cases h
theorem oV (h:Agrees p w) {b o:Nat} {v:Value} (hc:p.cell b o=some v):w.cell? ⟨b,o,none⟩=some v:=by
 unfold PH.cell at hc;cases hp:p b with
 | none=>rw [hp] at hc; cases hc
 | some cs =>
  rw [hp] at hc;have h1:=h b cs hp;cases cs with
  | map es c=>cases hc
  | cells cs =>
   obtain ⟨t,fz,e⟩:=h1;simp only [World.cell?,e];simpa [Blk.get] using hc
end
def AV.ints (k:IntKind):AV->Option (List Int)
 | .int k' n=>if k'=k then some [n] else none
 | .pair (.int k' n) r=>if k'=k then (AV.ints k r).map (n::·) else none
 | _=>none
def AV.setI (i:Nat) (m:Int):Nat->AV->AV
 | j,.int k n=>.int k (if i=j then m else n)
 | j,.pair (.int k n) r=>.pair (.int k (if i=j then m else n)) (AV.setI i m (j+1) r)
 | _,a=>a
def AV.putI (T:Ty) (i:Nat) (c v:AV):Option (Nat×AV) :=
 match T,v with
 | .int k,.int k' m=>if k'=k then (c.ints k).map fun xs=>(xs.length,c.setI i m 0) else none
 | _,_=>none
def uv (P:Program) (t:TypeId) (c:AV):Option (IntKind×List Int) :=
 match P.underlying t with
 | some (.array n e)=>match P.underlying e,P.info? e with
  | some (.int k),some i=>if Nat.beq i.size 1 then match c.ints k with
   | some xs=>if Nat.beq xs.length n&&Nat.ble 2 n then some (k,xs) else none
   | none=>none
   else none
  | _,_=>none
 | _=>none
def Hd (P:Program) (lh:Nat->Option LE) (t:TypeId) (a:AV):uw :=
 match fp P t with
 | none=>none
 | some n=>match a with
  | .pt T x off=>if Nat.ble (off+n) T.size then some ([],((T.av x).drop off).take n) else none
  | .loc d off=>match lh d with
   | some (.cells c)=>if Nat.ble (off+n) c.len then some ([],(c.drop off).take n) else none
   | _=>none
  | .el d T i off=>match lh d with
   | some (.row _ T' xs)=>if h:T'=T then (if Nat.ble (off+n) T.size then some ([i<xs.length],((T.av ((h ▸ xs).getD i T.dflt)).drop off).take n) else none) else none
   | some (.cells c)=>match T with
    | .int k=>match c.ints k with
     | some xs=>if Nat.beq n 1&&Nat.beq off 0 then some ([i<xs.length],.int k (xs.getD i 0)) else none
     | none=>none
    | _=>none
   | _=>none
  | _=>none
def kX (P:Program) (s:TypeId) (a:AV) (i:Nat):uw :=
 match P.underlying s with
 | some (.struct fs)=>match fs[i]? with
  | none=>none
  | some f=>match P.info? f.type with
   | none=>none
   | some inf=>if Nat.beq inf.size 0 then none else match a with
    | .pt T x off=>some ([],.pt T x (off+f.offset))
    | .loc d off=>some ([],.loc d (off+f.offset))
    | .el d T i off=>some ([],.el d T i (off+f.offset))
    | _=>none
 | _=>none
def gI (P:Program) (t:TypeId) (T:Ty):Bool :=
 match P.underlying t with
 | some (.slice e)=>match P.info? e with
  | some i=>Nat.beq i.size T.size
  | none=>false
 | _=>false
def ut (P:Program) (t:TypeId):Bool :=
 match P.underlying t with
 | some (.slice e)=>match P.info? e with
  | some i=>Nat.beq i.size 1
  | none=>false
 | _=>false
def nw (P:Program) (lh:Nat->Option LE) (t:TypeId) (a i:AV):uw :=
 match a,i with
 | .sl T xs,.int _ n=>if gI P t T then some ([0<=n,n<(xs.length:Int)],.pt T (xs.getD n.toNat T.dflt) 0) else none
 | .own d,.int _ n=>match lh d with
  | some (.row _ T xs)=>if gI P t T then some ([0<=n,n<(xs.length:Int)],.el d T n.toNat 0) else none
  | some (.froz T xs)=>if gI P t T then some ([0<=n,n<(xs.length:Int)],.pt T (xs.getD n.toNat T.dflt) 0) else none
  | _=>none
 | .psl d i m,.int _ n=>if ut P t then some ([0<=n,n<(m:Int)],.loc d (i+n.toNat)) else none
 | .osl d T i m,.int _ n=>if gI P t T then some ([0<=n,n<(m:Int)],.el d T (i+n.toNat) 0) else none
 | .loc d 0,.int _ n=>match lh d with
  | some (.cells c)=>match uv P t c with
   | some (k,xs)=>some ([0<=n,n<(xs.length:Int)],.el d (.int k) n.toNat 0)
   | none=>none
  | _=>none
 | _,_=>none
def jh (P:Program) (t:TypeId):Bool:=match P.underlying t with | some (.slice _)=>true | _=>false
def rX (P:Program) (t:TypeId):Bool:=match P.underlying t with | some .string=>true | _=>false
def MU (P:Program) (lh:Nat->Option LE) (t:TypeId) (a:AV):uw :=
 match a with
 | .sl _ xs=>if jh P t then some ([],.int .i64 (xs.length:Int)) else none
 | .nils=>if jh P t then some ([],.int .i64 0) else none
 | .own d=>if jh P t then (match lh d with
  | some (.row _ _ xs)=>some ([],.int .i64 (xs.length:Int))
  | some (.froz _ xs)=>some ([],.int .i64 (xs.length:Int))
  | _=>none) else none
 | .str s=>if rX P t then some ([],.int .i64 (s.length:Int)) else none
 | _=>none
def AV.nth:AV->Nat->Option AV
 | .tup a _,0=>some a
 | .tup _ b,n+1=>b.nth n
 | _,_=>none
def Pz (op:UnOp) (a:AV):uw :=
 match op,a with
 | .not,.bool b=>some ([],.bool (!b))
 | .neg,.int k n=>some ([ak k (-n)],.int k (-n))
 | .xor,.int .u64 n=>some ([],.int .u64 (18446744073709551615 - n))
 | _,_=>none
def O4 (j k:IntKind):Bool :=
 match j,k with
 | .u8,.u8=>true | .u8,.u16=>true | .u8,.u32=>true | .u8,.u64=>true | .u8,.i64=>true | .u8,.i32=>true
 | .i32,.i64=>true | .i32,.i32=>true | .u32,.u64=>true | .u32,.i64=>true | .i64,.i64=>true | .u64,.u64=>true | .u32,.u32=>true
 | .u16,.u16=>true | .u16,.u64=>true | .u16,.i64=>true
 | _,_=>false
def He (P:Program) (dst:TypeId) (a:AV):uw :=
 match P.underlying dst,a with
 | some (.int k),.int j n=>if O4 j k then some ([],.int k n) else some ([],.int k (k.wrap n))
 | some .string,.str s=>some ([],.str s)
 | _,_=>none
def BA (P:Program) (s:TypeId) (a:AV) (i:Nat):uw :=
 match P.underlying s with
 | some (.struct fs)=>match fs[i]? with
  | none=>none
  | some f=>match fp P f.type with
   | none=>none
   | some n=>match a with
    | .pair x y=>if Nat.ble (f.offset+n) (AV.pair x y).len then some ([],((AV.pair x y).drop f.offset).take n) else none
    | _=>none
 | _=>none
section
variable {M:Nat->Prop} {p0:PH} {w0:World} {S:St} {tm:Array Value} {w:World} {p:PH} {β:Nat->Value} {P:Program}
theorem AV.len_cells:∀ (a:AV) (cs:List Value),a.cells p β cs->cs.length=a.len:=by
 intro a
 induction a with
 | pair x y _ ih =>
  intro cs h
  match cs,h with
  | v::cs,h=>simp only [HN,AV.len,ih cs h.2]; omega
 | _ =>
  intro cs h;obtain ⟨v,rfl,_⟩:=(AV.cells_leaf _ (by intro x y e; cases e) cs).1 h;rfl
theorem ku {a:AV} {cs:List Value} (h:a.cells p β cs) {off n:Nat} (hn:0<n) (hl:off+n<=cs.length) :
  ((a.drop off).take n).cells p β ((cs.drop off).take n)/\((cs.drop off).take n).length=n :=
 ⟨AV.cells_take n _ _ (AV.cells_drop off a cs h (by omega)) hn (by simp; omega),by simp; omega⟩
theorem mj {t:TypeId} {n:Nat} (h:fp P t=some n):0<n:=by
 unfold fp at h;split at h
 ·cases h
 split at h
 ·split at h
  ·injection h with h; rename_i h2; have:=QE h2; omega
  ·cases h
 ·split at h
  ·injection h with h; rename_i h2; have:=QE h2; omega
  ·cases h
 ·split at h
  ·injection h with h; omega
  ·cases h
 ·cases h
theorem getElem?_drop_take {cs:List Value} {off n j:Nat} {u:Value} (h:((cs.drop off).take n)[j]?=some u):cs[off+j]?=some u:=by
 rw [List.getElem?_take] at h;split at h
 ·rwa [List.getElem?_drop] at h
 ·cases h
theorem Ds (hS:SatB M p0 w0 S tm w p β) {d:Nat} {e:TypeId} {T:Ty} {xs:List T.den} (hd:S.lh d=some (.row e T xs)) {i:Nat} (hi:i<xs.length) :
  ∃ g cap cur,β d=.slice (some ⟨g,0,none⟩) xs.length cap/\w.heap[g]?=some (.cells cur e (0,0))/\cur.size=cap * T.size/\xs.length<=cap /\
   T.holds p (xs.getD i T.dflt) ((cur.toList.drop (i * T.size)).take T.size):=by
 obtain ⟨l,h1,h2,h3⟩:=hS.lhs d _ hd;rcases h1.2 with ⟨_,h0⟩ | ⟨g,cap,cur,e1,_,e2,e3,_,e4,e5⟩
 ·omega
 ·refine ⟨g,cap,cur,e1,e2,e4,e3,?_⟩;have hx:xs[i]?=some (xs.getD i T.dflt):=by simp [List.getD,hi]
  have:=kM (fun x cs h=>Ty.holds_length T x cs h) xs l h2 i _ hx;rw [<- e5] at this;rw [List.drop_take,R2] at this
  have hm:min T.size (xs.length * T.size - i * T.size)=T.size:=by
   have:(i+1) * T.size<=xs.length * T.size:=Q2 _ hi;rw [RD] at this;omega
  rwa [hm] at this
theorem pm {k:IntKind}:∀ {c:AV} {xs:List Int} {cs:List Value},c.ints k=some xs->c.cells p β cs->cs=xs.map (Value.int k)/\∀ x∈xs,ak k x
 | c,xs,cs,h,hc=>by
  induction c generalizing xs cs with
  | int k' n =>
   simp only [AV.ints] at h;split at h <;> simp only [pS,reduceCtorEq] at h;rename_i hk;subst hk h;obtain ⟨v,rfl,hv⟩:=(AV.cells_leaf _ (by intro x y e; cases e) _).1 hc;obtain ⟨rfl,hr⟩:=hv;exact ⟨rfl,fun x hx=>by simp only [QA] at hx; subst hx; exact hr⟩
  | pair a r _ ih =>
   cases a <;> simp only [AV.ints,reduceCtorEq] at h;split at h <;> simp only [Dm,reduceCtorEq] at h;rename_i n hk;subst hk;obtain ⟨ys,hys,rfl⟩:=h
   match cs,hc with
   | v::cs,hc =>
    obtain ⟨⟨rfl,hr⟩,h2⟩:=hc;obtain ⟨rfl,hin⟩:=ih (xs:=ys) (cs:=cs) hys h2;refine ⟨rfl,fun x hx=>?_⟩;rcases Qs.1 hx with rfl | hx
    ·exact hr
    ·exact hin x hx
  | _=>simp only [AV.ints,reduceCtorEq] at h
theorem NU {i:Nat} {m:Int}:∀ (c:AV) (j:Nat),i<j->AV.setI i m j c=c
 | c,j,h=>by
  induction c generalizing j with
  | int k n=>simp only [AV.setI]; rw [if_neg (by omega)]
  | pair a r _ ih =>
   cases a <;> simp only [AV.setI];rw [if_neg (by omega),ih (j+1) (by omega)]
  | _=>rfl
theorem Gm {k:IntKind} {i:Nat} {m:Int} (hm:ak k m):∀ {c:AV} {xs:List Int} {cs:List Value} {j:Nat},c.ints k=some xs->c.cells p β cs->j<=i->i<j+xs.length->(AV.setI i m j c).cells p β (cs.take (i - j)++.int k m::cs.drop (i - j+1))
 | c,xs,cs,j,h,hc,h1,h2=>by
  induction c generalizing xs cs j with
  | int k' n =>
   simp only [AV.ints] at h;split at h <;> simp only [pS,reduceCtorEq] at h;rename_i hk;subst hk h;obtain ⟨v,rfl,hv⟩:=(AV.cells_leaf _ (by intro x y e; cases e) _).1 hc;have e:i=j:=by simp at h2; omega
   subst e;simp only [AV.setI,if_true,SC,R1,Q0,Rl,RK,SJ];exact (AV.cells_leaf _ (by intro x y e; cases e) _).2 ⟨_,rfl,rfl,hm⟩
  | pair a r _ ih =>
   cases a <;> simp only [AV.ints,reduceCtorEq] at h;split at h <;> simp only [Dm,reduceCtorEq] at h;rename_i n hk;subst hk;obtain ⟨ys,hys,rfl⟩:=h
   match cs,hc with
   | v::cs,hc =>
    obtain ⟨hv,h3⟩:=hc;simp only [HN] at h2;by_cases e:i=j
    ·subst e;simp only [AV.setI,if_true,SC,R1,Q0,Rl,RK,SJ,NU r (i+1) (Nat.lt_succ_self i)];exact ⟨⟨rfl,hm⟩,h3⟩
    ·have:=ih (xs:=ys) (cs:=cs) (j:=j+1) hys h3 (by omega) (by omega);rw [show i - j=(i - (j+1))+1 by omega];simp only [AV.setI,if_neg e,RC,Rf,RK];exact ⟨hv,this⟩
  | _=>simp only [AV.ints,reduceCtorEq] at h
theorem rr {t:TypeId} {c:AV} {k:IntKind} {xs:List Int} (h:uv P t c=some (k,xs)):∃ e i,P.underlying t=some (.array xs.length e)/\P.underlying e=some (.int k)/\P.info? e=some i/\i.size=1/\c.ints k=some xs/\2<=xs.length:=by
 unfold uv at h;split at h <;> try cases h
 rename_i n e hu;split at h <;> try cases h
 rename_i k' i hk hi;split at h <;> try cases h
 rename_i hs;split at h <;> try cases h
 rename_i ys hys;split at h <;> simp only [pS,zn,reduceCtorEq] at h;rename_i hb;obtain ⟨rfl,rfl⟩:=h;simp only [CF] at hb;have hl:=CC hb.1;have h2:=QE hb.2;exact ⟨e,i,by rw [hl]; exact hu,hk,hi,CC hs,hys,by omega⟩
theorem eH {b o:Nat} {cs:Array Value} {t:TypeId} {fz:Nat×Nat} (h:w.heap[b]?=some (.cells cs t fz)):w.cell? ⟨b,o,none⟩=cs[o]?:=by
 simp [World.cell?,h]
theorem Bz (hS:SatB M p0 w0 S tm w p β) {t:TypeId} {a:AV} {va:Value} {ps:List Prop} {r:AV} (h:Hd P S.lh t a=some (ps,r)) (hps:∀ q∈ps,q)
  (ha:a.val p β tm va):cB P (Instr.loadAt t va) w p β tm r:=by
 unfold Hd at h;split at h
 ·cases h
 rename_i n hn;have hpos:=mj hn;split at h
 ·rename_i T x off;split at h
  ·rename_i hb;have hb:=QE hb;simp only [pS,zn] at h;obtain ⟨rfl,rfl⟩:=h;obtain ⟨b,o,es,rfl,hh,hc⟩:=ha;have hl:=Ty.holds_length T x es hh;obtain ⟨h1,h2⟩:=ku (β:=β) (off:=off) (Ty.av_cells T x es hh) hpos (by omega)
   exact gq hn h1 h2 (fun j u hu=>by
    have:=hc (off+j) u (getElem?_drop_take hu);rw [<- SF] at this;exact oV hS.agr this)
  ·cases h
 ·rename_i d off;split at h
  ·rename_i c hc;split at h
   ·rename_i hb;have hb:=QE hb;simp only [pS,zn] at h;obtain ⟨rfl,rfl⟩:=h;obtain ⟨b,e1,rfl⟩:=ha;obtain ⟨b',cs,t',e2,e3,e4⟩:=hS.lhs d _ hc;rw [e1] at e2;injection e2 with e2
    injection e2 with e2
    injection e2 with e2
    subst e2;have hl:=AV.len_cells c cs.toList e4;obtain ⟨h1,h2⟩:=ku e4 hpos (show off+n<=_ by omega)
    exact gq hn h1 h2 (fun j u hu=>by
     rw [eH e3];have:=getElem?_drop_take hu;simpa using this)
   ·cases h
  ·cases h
 ·rename_i d T i off;split at h
  ·rename_i e' T' xs hd;split at h
   ·rename_i hT;subst hT;split at h
    ·rename_i hb;have hb:=QE hb;simp only [pS,zn] at h;obtain ⟨rfl,rfl⟩:=h;have hi:=hps _ (QJ);obtain ⟨b,e1,rfl⟩:=ha;obtain ⟨g,cap,cur,e2,e3,e4,e5,e6⟩:=Ds hS hd hi;rw [e2] at e1;injection e1 with e1
     subst e1;have hl:=Ty.holds_length T' _ _ e6;obtain ⟨h1,h2⟩:=ku (β:=β) (off:=off) (Ty.av_cells T' _ _ e6) hpos (by omega)
     exact gq hn h1 h2 (fun j u hu=>by
      rw [eH e3];have h3:=getElem?_drop_take hu;have h4:=getElem?_drop_take h3;rw [<- SF] at h4;simpa using h4)
    ·cases h
   ·cases h
  ·rename_i c hd;split at h <;> try cases h
   rename_i k;split at h <;> try cases h
   rename_i xs hxs;split at h <;> simp only [pS,zn,reduceCtorEq] at h;rename_i hb;obtain ⟨rfl,rfl⟩:=h;simp only [CF] at hb;have hn1:=CC hb.1;have ho:=CC hb.2;have hi:i<xs.length:=hps _ (QJ);obtain ⟨b,e1,rfl⟩:=ha;obtain ⟨b',cs,t',e2,e3,e4⟩:=hS.lhs d _ hd;rw [e2] at e1;injection e1 with e1
   subst e1;obtain ⟨e5,hin⟩:=pm hxs e4;have hx:xs[i]?=some (xs.getD i 0):=by simp [List.getD,hi]
   refine gq (cs:=[.int k (xs.getD i 0)]) hn ((AV.cells_leaf _ (by intro x y e; cases e) _).2 ⟨_,rfl,rfl,hin _ (Rr hx)⟩) (by simp [hn1]) (fun j u hu=>?_);cases j with
   | succ j=>simp at hu
   | zero =>
    simp only [List.getElem?_cons_zero,pS] at hu;subst hu;rw [eH e3,ho];have:cs.toList[i]?=some (.int k (xs.getD i 0)):=by rw [e5,List.getElem?_map,hx]; rfl
    simpa [Ty.size] using this
  ·cases h
 ·cases h
theorem fX {b o n:Nat}:(⟨b,o,none⟩:Addr).add n=⟨b,o+n,none⟩:=by unfold Addr.add; split <;> simp_all
theorem rb {s:TypeId} {a:AV} {i:Nat} {va:Value} {ps:List Prop} {r:AV} (h:kX P s a i=some (ps,r))
  (ha:a.val p β tm va):cB P (Instr.fieldAt s va i) w p β tm r:=by
 unfold kX at h;split at h <;> try cases h
 rename_i fs hu;split at h <;> try cases h
 rename_i f hf;split at h <;> try cases h
 rename_i inf hi;split at h
 ·cases h
 rename_i hz;have hz:inf.size≠0:=by intro e; rw [e] at hz; simp at hz
 have run:∀ b o,(Instr.fieldAt s (.pointer (some ⟨b,o,none⟩)) i).run P w=.ok (.pointer (some ⟨b,o+f.offset,none⟩)) w:=by
  intro b o;simp [Instr.fieldAt,QM hu,hf,Instr.sureAddr,fieldPlace,sizeOf,typeInfo,hi,hz,fX]
 split at h <;> simp only [pS,zn,reduceCtorEq] at h <;> obtain ⟨rfl,rfl⟩:=h
 ·obtain ⟨b,o,es,rfl,hh,hc⟩:=ha;exact ⟨_,run _ _,b,o,es,by rw [SF],hh,hc⟩
 ·obtain ⟨b,e1,rfl⟩:=ha;exact ⟨_,run _ _,b,e1,rfl⟩
 ·obtain ⟨b,e1,rfl⟩:=ha;exact ⟨_,run _ _,b,e1,by rw [SF]⟩
theorem fT {t:TypeId} {T:Ty} (h:gI P t T=true):∃ e i,P.underlying t=some (.slice e)/\P.info? e=some i/\i.size=T.size:=by
 unfold gI at h;split at h
 ·rename_i e hu;split at h
  ·rename_i i hi;exact ⟨e,i,hu,hi,CC h⟩
  ·cases h
 ·cases h
theorem rh {t:TypeId} (h:ut P t=true):∃ e i,P.underlying t=some (.slice e)/\P.info? e=some i/\i.size=1:=by
 unfold ut at h;split at h
 ·rename_i e hu;split at h
  ·rename_i i hi;exact ⟨e,i,hu,hi,CC h⟩
  ·cases h
 ·cases h
theorem kL {t e:TypeId} {i:TypeInfo} (hu:P.underlying t=some (.slice e)) (hi:P.info? e=some i) {b o len cap:Nat} {k:IntKind} {n:Int} (h0:0<=n) (h1:n<(len:Int)) :
  (Instr.indexAt t (.slice (some ⟨b,o,none⟩) len cap) (.int k n)).run P w=.ok (.pointer (some ⟨b,o+n.toNat * i.size,none⟩)) w:=by
 simp [Instr.indexAt,asIntOf,QM hu,h0,h1,sizeOf,typeInfo,hi,fX]
theorem Ng {T:Ty} {xs:List T.den} {v:Value} (h:(Ty.arr T).holds p xs [v]) {i:Nat} (hi:i<xs.length) :
  ∃ b o c es,v=.slice (some ⟨b,o,none⟩) xs.length c/\T.holds p (xs.getD i T.dflt) es/\∀ j u,es[j]?=some u->p.cell b (o+i * T.size+j)=some u:=by
 obtain ⟨A,c,l,e,h1,h2,h3,h4⟩:=h;injection e with e _
 subst e;obtain ⟨b,o,rfl,hc⟩:=h4 (by intro e; subst e; simp at hi);have hx:xs[i]?=some (xs.getD i T.dflt):=by simp [List.getD,hi]
 have:=kM (fun x cs h=>Ty.holds_length T x cs h) xs l h3 i _ hx;refine ⟨b,o,c,_,rfl,this,fun j u hu=>?_⟩;rw [SF];exact hc _ u (getElem?_drop_take hu)
theorem qZ (hS:SatB M p0 w0 S tm w p β) {t:TypeId} {a i:AV} {va vi:Value} {ps:List Prop} {r:AV} (h:nw P S.lh t a i=some (ps,r)) (hps:∀ q∈ps,q)
  (ha:a.val p β tm va) (hi:i.val p β tm vi):cB P (Instr.indexAt t va vi) w p β tm r:=by
 have arr:∀ {T:Ty} {xs:List T.den} {k:IntKind} {n:Int} {v:Value},gI P t T=true->(Ty.arr T).holds p xs [v]->0<=n->n<(xs.length:Int) ->
   cB P (Instr.indexAt t v (.int k n)) w p β tm (.pt T (xs.getD n.toNat T.dflt) 0):=by
  intro T xs k n v hok hv h0 h1;obtain ⟨e,inf,hu,hinf,hsz⟩:=fT hok;obtain ⟨b,o,c,es,rfl,hh,hc⟩:=Ng hv (i:=n.toNat) (by omega);refine ⟨_,kL hu hinf h0 h1,b,o+n.toNat * T.size,es,by rw [hsz]; rfl,hh,hc⟩
 unfold nw at h;split at h
 ·rename_i T xs k n;obtain ⟨rfl,_⟩:=ce hi;split at h
  ·rename_i hok;simp only [pS,zn] at h;obtain ⟨rfl,rfl⟩:=h;exact arr hok ha (hps _ (by simp)) (hps _ (by simp))
  ·cases h
 ·rename_i d k n;obtain ⟨rfl,_⟩:=ce hi;split at h
  ·rename_i e' T xs hd;split at h
   ·rename_i hok;simp only [pS,zn] at h;obtain ⟨rfl,rfl⟩:=h;have h0:0<=n:=hps _ (by simp);have h1:n<(xs.length:Int):=hps _ (by simp);obtain ⟨e,inf,hu,hinf,hsz⟩:=fT hok;obtain ⟨g,cap,cur,e2,_⟩:=Ds hS hd (i:=n.toNat) (by omega);have ha':va=β d:=ha;rw [ha',e2];refine ⟨_,kL hu hinf h0 h1,g,by rw [e2]; rfl,?_⟩;rw [hsz]; simp
   ·cases h
  ·rename_i T xs hd;split at h
   ·rename_i hok;simp only [pS,zn] at h;obtain ⟨rfl,rfl⟩:=h;have ha':va=β d:=ha;rw [ha'];exact arr hok (hS.lhs d _ hd) (hps _ (by simp)) (hps _ (by simp))
   ·cases h
  ·cases h
 ·rename_i d i m k n;obtain ⟨rfl,_⟩:=ce hi;split at h
  ·rename_i hok;simp only [pS,zn] at h;obtain ⟨rfl,rfl⟩:=h;have h0:0<=n:=hps _ (by simp);have h1:n<(m:Int):=hps _ (by simp);obtain ⟨e,inf,hu,hinf,hsz⟩:=rh hok;rcases ha with ⟨b,c,e1,_,rfl⟩ | ⟨hm,_⟩
   ·refine ⟨_,kL hu hinf h0 h1,b,e1,?_⟩;rw [hsz,R3]
   ·omega
  ·cases h
 ·rename_i d T i m k n;obtain ⟨rfl,_⟩:=ce hi;split at h
  ·rename_i hok;simp only [pS,zn] at h;obtain ⟨rfl,rfl⟩:=h;have h0:0<=n:=hps _ (by simp);have h1:n<(m:Int):=hps _ (by simp);obtain ⟨e,inf,hu,hinf,hsz⟩:=fT hok;rcases ha with ⟨b,l,c,c',e1,rfl⟩ | ⟨hm,_⟩
   ·refine ⟨_,kL hu hinf h0 h1,b,by rw [e1]; rfl,?_⟩;rw [hsz,SB];simp
   ·omega
  ·cases h
 ·rename_i d k n;obtain ⟨rfl,_⟩:=ce hi;split at h <;> try cases h
  rename_i c hd;split at h <;> simp only [pS,zn,reduceCtorEq] at h;rename_i k' xs hx;obtain ⟨rfl,rfl⟩:=h;have h0:0<=n:=hps _ (by simp);have h1:n<(xs.length:Int):=hps _ (by simp);obtain ⟨e,inf,hu,_,hinf,hsz,_,hl2⟩:=rr hx;obtain ⟨b,e1,rfl⟩:=ha;refine ⟨.pointer (some ⟨b,0+n.toNat * 1,none⟩),?_,b,by rw [e1]; rfl,by simp [Ty.size]⟩;have hle:¬ xs.length<=1:=by omega
  simp [Instr.indexAt,asIntOf,QM hu,h0,h1,sizeOf,typeInfo,hinf,hsz,fX,Instr.sureAddr]
 ·cases h
theorem xY {t:TypeId} (h:jh P t=true):∃ e,P.underlying t=some (.slice e):=by
 unfold jh at h;split at h
 ·exact ⟨_,by assumption⟩
 ·cases h
theorem nq {t:TypeId} (h:rX P t=true):P.underlying t=some .string:=by
 unfold rX at h;split at h
 ·assumption
 ·cases h
theorem fx:∀ T:Ty,8<=T.bytes
 | .int _=>by simp [Ty.bytes]
 | .bool=>by simp [Ty.bytes]
 | .str=>by simp [Ty.bytes]
 | .arr _=>by simp [Ty.bytes]
 | .nil=>by simp [Ty.bytes]
 | .ref _=>by simp [Ty.bytes]
 | .fn _ _=>by simp [Ty.bytes]
 | .map _ _=>by simp [Ty.bytes]
 | .pair A B=>by have:=fx A; simp [Ty.bytes]; omega
theorem Bd {T:Ty} {n:Nat} (h:n * T.bytes<=aK):ak .i64 (n:Int):=by
 have:=fx T;have h2:n * 8<=n * T.bytes:=Rk _ this;simp only [aK,ak] at *;omega
theorem rq {T:Ty} {xs:List T.den} {v:Value} (h:(Ty.arr T).holds p xs [v]):∃ A c,v=.slice A xs.length c/\xs.length * T.bytes<=aK:=by
 obtain ⟨A,c,l,e,h1,h2,h3,h4⟩:=h;injection e with e _
 exact ⟨A,c,e,h2⟩
theorem AO (hS:SatB M p0 w0 S tm w p β) {d:Nat} {e:TypeId} {T:Ty} {xs:List T.den} (hd:S.lh d=some (.row e T xs)):∃ A c,β d=.slice A xs.length c/\xs.length * T.bytes<=aK:=by
 obtain ⟨l,h1,h2,h3⟩:=hS.lhs d _ hd;rcases h1.2 with ⟨e0,h0⟩ | ⟨g,cap,cur,e1,_⟩
 ·exact ⟨none,0,by rw [e0,h0],h3⟩
 ·exact ⟨_,_,e1,h3⟩
theorem EI (hS:SatB M p0 w0 S tm w p β) {t ty:TypeId} {a:AV} {va:Value} {ps:List Prop} {r:AV} (h:MU P S.lh t a=some (ps,r))
  (ha:a.val p β tm va):cB P (Builtin.len_ #[t] ty #[va]) w p β tm r:=by
 have sl:∀ {A:Option Addr} {n c:Nat},jh P t=true->(Builtin.len_ #[t] ty #[.slice A n c]).run P w=.ok (.int .i64 (n:Int)) w:=by
  intro A n c ht;obtain ⟨e,hu⟩:=xY ht;simp [Builtin.len_,QM hu,goInt]
 unfold MU at h;split at h
 ·split at h
  ·rename_i ht;simp only [pS,zn] at h;obtain ⟨rfl,rfl⟩:=h;obtain ⟨A,c,rfl,hb⟩:=rq ha;exact ⟨_,sl ht,rfl,Bd hb⟩
  ·cases h
 ·split at h
  ·rename_i ht;simp only [pS,zn] at h;obtain ⟨rfl,rfl⟩:=h;have:va=.slice none 0 0:=ha;subst this;exact ⟨_,sl ht,rfl,by simp [ak]⟩
  ·cases h
 ·split at h
  ·rename_i ht;have ha':va=β _:=ha;subst ha';split at h
   ·rename_i hd;simp only [pS,zn] at h;obtain ⟨rfl,rfl⟩:=h;obtain ⟨A,c,e,hb⟩:=AO hS hd;rw [e];exact ⟨_,sl ht,rfl,Bd hb⟩
   ·rename_i hd;simp only [pS,zn] at h;obtain ⟨rfl,rfl⟩:=h;obtain ⟨A,c,e,hb⟩:=rq (hS.lhs _ _ hd);rw [e];exact ⟨_,sl ht,rfl,Bd hb⟩
   ·cases h
  ·cases h
 ·split at h
  ·rename_i ht;simp only [pS,zn] at h;obtain ⟨rfl,rfl⟩:=h;obtain ⟨rfl,hb⟩:=kE ha;have hu:=nq ht;refine ⟨.int .i64 _,?_,rfl,?_⟩
   ·simp only [Builtin.len_,RE,HN,QQ,Rl,Nat.lt_add_one,getElem?_pos,List.getElem_toArray,List.getElem_cons_zero,QL,QM hu,QC];rfl
   ·simp only [aK,ak] at *; omega
  ·cases h
 ·cases h
theorem AV.nth_vals:∀ (a:AV) (vs:List Value) (n:Nat) (r:AV),a.vals p β vs->a.nth n=some r->∃ v,vs[n]?=some v/\r.val1 p β v:=by
 intro a
 induction a with
 | tup x y _ ih =>
  intro vs n r h hn
  match vs,h with
  | v::vs,h =>
   match n with
   | 0=>simp [AV.nth] at hn; subst hn; exact ⟨v,rfl,h.1⟩
   | n+1=>simpa using ih vs n r h.2 (by simpa [AV.nth] using hn)
 | _=>intro vs n r h hn; simp [AV.nth] at hn
theorem AV.val_of_val1 {a:AV} {v:Value} (h:a.val1 p β v):a.val p β tm v:=by
 cases a <;> first | exact h | exact h.elim
theorem x6 {a:AV} {n:Nat} {va:Value} {r:AV} (h:a.nth n=some r) (ha:a.val p β tm va):cB P (Instr.extract va n) w p β tm r:=by
 cases a <;> (first | (simp [AV.nth] at h; done) | skip);obtain ⟨vs,rfl,hv⟩:=ha;obtain ⟨v,e,h1⟩:=AV.nth_vals _ _ _ _ hv h;refine ⟨v,?_,AV.val_of_val1 h1⟩;simp [Instr.extract,e]
theorem PX {n:Int} (h0:0<=n) (h1:n<=18446744073709551615) :
  IntKind.u64.wrap ((BitVec.ofInt 64 18446744073709551615 ^^^ BitVec.ofInt 64 n).toNat:Int)=18446744073709551615 - n:=by
 have e2:(BitVec.ofInt 64 18446744073709551615 ^^^ BitVec.ofInt 64 n) = ~~~ BitVec.ofInt 64 n:=by
  have:BitVec.ofInt 64 18446744073709551615=BitVec.allOnes 64:=by decide
  rw [this];exact BitVec.allOnes_xor
 have e3:(BitVec.ofInt 64 n).toNat=n.toNat:=by
  obtain ⟨m,rfl⟩:=Ro h0;rw [BitVec.ofInt_natCast,BitVec.toNat_ofNat,Q5];apply Nat.mod_eq_of_lt;omega
 rw [e2,BitVec.toNat_not,e3];have e4:(((2 ^ 64 - 1 - n.toNat:Nat)):Int)=18446744073709551615 - n:=by omega
 rw [e4,dC (by simp only [ak]; omega)]
theorem Hc {op:UnOp} {a:AV} {va:Value} {ps:List Prop} {r:AV} (h:Pz op a=some (ps,r)) (hps:∀ q∈ps,q)
  (ha:a.val p β tm va):cB P (Op.unary op va) w p β tm r:=by
 unfold Pz at h;split at h <;> simp only [pS,zn,reduceCtorEq] at h <;> obtain ⟨rfl,rfl⟩:=h
 ·obtain rfl:=lB ha;exact ⟨_,rfl,rfl⟩
 ·obtain ⟨rfl,_⟩:=ce ha;have h1:=hps _ (QJ);refine ⟨_,?_,rfl,h1⟩;simp only [Op.unary,Op.intArith,QU];rw [Int.zero_sub,dC h1]
 ·rename_i n;obtain ⟨rfl,hr⟩:=ce ha;simp only [ak] at hr;have h1:ak .u64 (18446744073709551615 - n):=by simp only [ak]; omega
  refine ⟨_,?_,rfl,h1⟩;have e1:(if IntKind.signed .u64=true then (-1:Int) else IntKind.max .u64)=18446744073709551615:=by simp [IntKind.signed,IntKind.max,IntKind.bits]
  simp only [Op.unary,e1,Op.intBits,QU];exact congrArg (fun x=>Result.ok (Value.int .u64 x) w) (PX hr.1 hr.2)
theorem I9 {j k:IntKind} {n:Int} (h:O4 j k=true) (hn:ak j n):ak k n:=by
 unfold O4 at h;split at h <;> first | (cases h; done) | (simp only [ak] at hn |-; omega)
theorem BC {src dst:TypeId} {a:AV} {va:Value} {ps:List Prop} {r:AV} (h:He P dst a=some (ps,r)) (ha:a.val p β tm va)
  (hsrc:(P.underlying src).isSome=true):cB P (convert src dst va) w p β tm r:=by
 obtain ⟨ds,hs⟩:=R9.1 hsrc;unfold He at h;split at h
 ·rename_i k j n hu;obtain ⟨rfl,hr⟩:=ce ha
  have run:(convert src dst (.int j n)).run P w=.ok (.int k (k.wrap n)) w:=by
   simp only [convert,QL,QM hs,QM hu,QC];cases ds <;> simp [Conv.intToInt]
  split at h <;> simp only [pS,zn] at h <;> obtain ⟨rfl,rfl⟩:=h
  ·rename_i hk;have:=I9 hk hr;exact ⟨_,run,by rw [dC this]; exact ⟨rfl,this⟩⟩
  ·exact ⟨_,run,rfl,fP _ _⟩
 ·rename_i s hu;simp only [pS,zn] at h;obtain ⟨rfl,rfl⟩:=h;obtain ⟨rfl,hr⟩:=kE ha;refine ⟨_,?_,rfl,hr⟩;simp only [convert,QL,QM hs,QM hu,QC];cases ds <;> simp
 ·cases h
theorem ya {s:TypeId} {a:AV} {i:Nat} {va:Value} {ps:List Prop} {r:AV} (h:BA P s a i=some (ps,r)) (ha:a.val p β tm va):cB P (Instr.field s va i) w p β tm r:=by
 unfold BA at h;split at h
 case h_2=>cases h
 rename_i fs hu;split at h <;> try cases h
 rename_i f hf;split at h <;> try cases h
 rename_i n hn;split at h <;> try cases h
 rename_i x y;split at h <;> simp only [pS,zn,reduceCtorEq] at h <;> obtain ⟨rfl,rfl⟩:=h;rename_i hle;have hle:=QE hle;obtain ⟨cs,rfl,hc⟩:=ha;have hlen:=(AV.len_cells _ _ hc).symm;have hpos:=mj hn;obtain ⟨h1,h2⟩:=ku (off:=f.offset) hc hpos (by omega)
 have run:(Instr.field s (.agg cs) i).run P w=(part f.type cs f.offset).run P w:=by
  simp [Instr.field,QM hu,hf,asAgg]
 have key:∀ v,(part f.type cs f.offset).run P w=.ok v w->(AV.take n ((AV.pair x y).drop f.offset)).val p β tm v->cB P (Instr.field s (.agg cs) i) w p β tm (AV.take n ((AV.pair x y).drop f.offset)):=fun v e hv=>⟨v,run.trans e,hv⟩
 have ofAgg:(isAgg f.type).run P w=.ok true w->(∃ i0,P.info? f.type=some i0/\i0.size=n)->2<=n->cB P (Instr.field s (.agg cs) i) w p β tm (AV.take n ((AV.pair x y).drop f.offset)):=by
  rintro hag ⟨i0,hi0,hs0⟩ h2n;refine key (.agg ((cs.toList.drop f.offset).take n).toArray) ?_ (AV.val_of_cells_agg h1 (by omega))
  have e:cs.extract f.offset (f.offset+n)=((cs.toList.drop f.offset).take n).toArray:=by
   apply QZ.1;simp [List.take_drop,Array.toList_extract]
  simp [part,hag,sizeOf,typeInfo,hi0,hs0,e]
 have ofOne:(isAgg f.type).run P w=.ok false w->n=1->cB P (Instr.field s (.agg cs) i) w p β tm (AV.take n ((AV.pair x y).drop f.offset)):=by
  intro hag h1n;subst h1n
  have hlt:f.offset<cs.size:=by
   have:cs.toList.length=cs.size:=by simp
   omega
  have e:(cs.toList.drop f.offset).take 1=[cs[f.offset]]:=by
   rw [Rq (by simpa using hlt)];simp
  rw [e] at h1;refine key cs[f.offset] ?_ (AV.val_of_cells_one h1);simp [part,hag,hlt]
 unfold fp at hn;split at hn
 ·cases hn
 rename_i i0 hi0;split at hn
 ·rename_i fs' hu';split at hn
  ·rename_i hb;injection hn with hn
   exact ofAgg (by simp [isAgg,QM hu']) ⟨i0,hi0,hn⟩ (by have:=QE hb; omega)
  ·cases hn
 ·rename_i k e hu';split at hn
  ·rename_i hb;injection hn with hn
   exact ofAgg (by simp [isAgg,QM hu']) ⟨i0,hi0,hn⟩ (by have:=QE hb; omega)
  ·cases hn
 ·rename_i d hZ hd2 hu';split at hn <;> try cases hn
  refine ofOne ?_ rfl
  have:∀ d',P.underlying f.type=some d'->(∀ fs,d'≠.struct fs)->(∀ k e,d'≠.array k e)->(isAgg f.type).run P w=.ok false w:=by
   intro d' hu' h1 h2;cases d' <;> simp [isAgg,QM hu'] <;> first | exact absurd rfl (h1 _) | exact absurd rfl (h2 _ _)
  exact this d hu' (fun fs e=>hZ fs (by rw [e])) (fun k e e2=>hd2 k e (by rw [e2]))
 ·cases hn
end
def gm:List Ty->Type
 | []=>Unit
 | [T]=>T.den
 | T::U::Ts=>T.den×gm (U::Ts)
inductive RT where
 | dat (T:Ty)
 | own (e:TypeId) (T:Ty)
 | map (k:IntKind) (V:Ty)
def RT.den:RT->Type
 | .dat T=>T.den
 | .own _ T=>List T.den
 | .map _ V=>List (Int×V.den)
def eD:List RT->Type
 | []=>Unit
 | [R]=>R.den
 | R::U::Rs=>R.den×eD (U::Rs)
def Ty.vholds (p:PH) (T:Ty) (x:T.den) (v:Value):Prop :=
 match T,x with
 | .pair A B,x=>∃ cs,v=.agg cs/\(Ty.pair A B).holds p x cs.toList
 | T,x=>T.holds p x [v]
def di (p:PH):(Ts:List Ty)->gm Ts->List Value->Prop
 | [],_,vs=>vs=[]
 | [T],x,vs=>∃ v,vs=[v]/\T.vholds p x v
 | T::U::Ts,x,vs=>∃ v rest,vs=v::rest/\T.vholds p x.1 v/\di p (U::Ts) x.2 rest
def RT.holds (w:World) (B:Nat) (r q:PH):(R:RT)->R.den->Value->Prop
 | .dat T,x,v=>T.vholds r x v
 | .own e T,xs,v=>(∃ l,w.ownsRow B e T.size v xs.length l/\aN (T.holds r) xs l/\xs.length * T.bytes<=aK)/\∀ b,b8 v=some b->q b=none
 | .map k V,m,v=>(∃ g es clock,v=.map (some g)/\B<=g/\w.heap[g]?=some (.map es clock)/\jL es clock/\cz k (fun x v=>fC V (V.holds r x) v) m es.toList)/\∀ b,b8 v=some b->q b=none
def RT.blk:RT->Value->Option Nat
 | .own _ _,v=>b8 v
 | .map _ _,v=>b8 v
 | .dat _,_=>none
def jw (w:World) (B:Nat) (r q:PH):(Rs:List RT)->eD Rs->List Value->List Nat->Prop
 | [],_,vs,_=>vs=[]
 | [R],x,vs,bs=>∃ v,vs=[v]/\R.holds w B r q x v/\∀ b,R.blk v=some b->b ∉ bs
 | R::U::Rs,x,vs,bs=>∃ v rest,vs=v::rest/\R.holds w B r q x.1 v/\(∀ b,R.blk v=some b->b ∉ bs) /\
   jw w B r q (U::Rs) x.2 rest (match R.blk v with | some b=>b::bs | none=>bs)
def cA:List Value->Value
 | [v]=>v
 | vs=>.tuple vs.toArray
structure Spec where
 Ts:List Ty
 Rs:List RT
 al:Bool:=false
 pre:gm Ts->Prop
 F:gm Ts->eD Rs
def As:List (Nat×Nat×Value):=((List.zip (List.range 56) [false,false,false,false,true,true,true,true,false,false,false,false,true,true,true,false,true,true,true,false,true,true,false,false,true,true,false,true,true,false,false,false,true,false,false,false,true,true,false,false,true,false,false,false,true,false,false,true,false,false,false,true,true,false,false,false]).map fun x=>(0,x.1,.bool x.2))++[(1,0,.agg ((List.range 20).map fun i=>Value.int .u64 ((10 ^ i:Nat):Int)).toArray),(3,0,.nilIface),(4,0,.nilIface)]
def fits (w:World) (g o:Nat):Value->Prop
 | .nilIface=>∃ te pe,w.cell? ⟨g,o,none⟩=some (.iface te pe)
 | .agg cs=>∃ t fz,w.heap[g]?=some (.cells cs t fz)
 | v=>w.cell? ⟨g,o,none⟩=some v
theorem Ky {w w':World} {g o:Nat} {v:Value} (h:fits w g o v) (e:w'.heap[g]?=w.heap[g]?):fits w' g o v:=by
 have hc:w'.cell? ⟨g,o,none⟩=w.cell? ⟨g,o,none⟩:=by
  unfold World.cell?;simp only;rw [e]
 cases v <;> simp only [fits,hc,e] at h |- <;> exact h
theorem Bt {w:World} {g o:Nat} {v:Value} (h:fits w g o v):g<w.heap.size:=by
 apply Rc;intro hn
 have hc:w.cell? ⟨g,o,none⟩=none:=by
  unfold World.cell?;simp only [Array.getElem?_eq_none (Nat.le_of_not_lt hn)]
 cases v <;> simp [fits,hc,Array.getElem?_eq_none (Nat.le_of_not_lt hn)] at h
def Laid (w:World):Prop:=∀ t∈As,fits w t.1 t.2.1 t.2.2
theorem Laid.of_heap {w w':World} (h:Laid w) (hk:∀ t∈As,t.1<w.heap.size->w'.heap[t.1]?=w.heap[t.1]?):Laid w' :=
 fun t ht=>Ky (h t ht) (hk t ht (Bt (h t ht)))
theorem Laid.keep {M:Nat->Prop} {w w':World} (h:Laid w) (hM:∀ t∈As,¬ M t.1) (k:Keep M w w'):Laid w' :=
 h.of_heap fun t ht hlt=>k.block _ hlt (hM t ht)
def Spec.ok (s:Spec) (P:Program) (f:FuncId):Prop :=
 ∀ (p:PH) (w:World) (vs:List Value) (x:gm s.Ts),Laid w->Agrees p w->di p s.Ts x vs->s.pre x ->
  Calls P f vs.toArray w fun e w'=>∃ (rs:List Value) (q:PH),e=.returned (cA rs)/\Keep (fun _=>False) w w'/\(∀ b cs,q b=some cs->w.heap.size<=b)/\Agrees q w' /\
   jw w' w.heap.size (if s.al then p.union q else q) q s.Rs (s.F x) rs []
structure RowFn where
 e:TypeId
 T:Ty
 Ts:List Ty
 out:Bool
 tail:Bool:=false
 pre:List T.den->List T.den->gm Ts->Prop
 F:List T.den->List T.den->gm Ts->List T.den
def RowFn.ok (r:RowFn) (P:Program) (f:FuncId):Prop :=
 ∀ (p:PH) (w:World) (v:Value) (xs:List r.T.den) (l:List Value) (v2:Value) (ys:List r.T.den) (l2:List Value) (vs:List Value) (x:gm r.Ts),Laid w->(∀ b,v.ownBlock=some b->∀ k∈As,k.1≠b)->Agrees p w ->
  w.ownsRow 0 r.e r.T.size v xs.length l->aN (r.T.holds p) xs l->xs.length * r.T.bytes<=aK->(∀ b,v.ownBlock=some b->p b=none) ->
  w.ownsRow 0 r.e r.T.size v2 ys.length l2->aN (r.T.holds p) ys l2->(∀ b,v.ownBlock=some b->v2.ownBlock≠some b) ->
  di p r.Ts x vs->r.pre xs ys x ->
  Calls P f (v::(vs++if r.tail then [v2] else [])).toArray w fun e w'=>∃ (v':Value) (l':List Value),e=.returned (if r.out then v' else .tuple #[])/\(r.out=false->v'=v)/\w.grownBy w' v.ownBlock /\
   w'.ownsRow 0 r.e r.T.size v' (r.F xs ys x).length l'/\aN (r.T.holds p) (r.F xs ys x) l'/\(r.F xs ys x).length * r.T.bytes<=aK /\
   ∀ b,v'.ownBlock=some b->v.ownBlock=some b\/w.heap.size<=b
structure BoxFn where
 T:Ty
 Ts:List Ty
 Rs:List RT
 pre:T.den->gm Ts->Prop
 F:T.den->gm Ts->eD Rs×T.den
def BoxFn.ok (r:BoxFn) (P:Program) (f:FuncId):Prop :=
 ∀ (p:PH) (w:World) (b:Nat) (cs:Array Value) (t:TypeId) (x:r.T.den) (vs:List Value) (y:gm r.Ts),Laid w->(∀ k∈As,k.1≠b)->Agrees p w->w.heap[b]?=some (.cells cs t (0,0))->r.T.holds p x cs.toList->p b=none ->
  di p r.Ts y vs->r.pre x y ->
  Calls P f (.pointer (some ⟨b,0,none⟩)::vs).toArray w fun e w'=>∃ (rs:List Value) (q:PH) (cs':Array Value) (t':TypeId),e=.returned (cA rs)/\w.grownBy w' (some b)/\(∀ b cs,q b=some cs->w.heap.size<=b)/\Agrees q w' /\
   w'.heap[b]?=some (.cells cs' t' (0,0))/\r.T.holds (p.union q) (r.F x y).2 cs'.toList/\jw w' w.heap.size (p.union q) q r.Rs (r.F x y).1 rs []
inductive TFn
 | row (r:RowFn)
 | box (r:BoxFn)
instance:Coe RowFn TFn:=⟨TFn.row⟩
instance:Coe BoxFn TFn:=⟨TFn.box⟩
def TFn.ok (t:TFn) (P:Program) (f:FuncId):Prop:=match t with
 | .row r=>r.ok P f
 | .box r=>r.ok P f
structure Specs where
 fn:FuncId->Option Spec
 row:FuncId->Option TFn
 cut:Bool:=false
 opn:Bool:=false
instance:CoeFun Specs (fun _=>FuncId->Option Spec):=⟨Specs.fn⟩
def Specs.ok (ss:Specs) (P:Program):Prop:=P=Tryz.prog/\(∀ f s,ss f=some s->s.ok P f)/\∀ f r,ss.row f=some r->r.ok P f
def Specs.okA (ss:Specs) (P:Program) (M:Nat->Prop) (w0:World):Prop:=ss.ok P/\Laid w0/\∀ t∈As,¬ M t.1
def Specs.cutIf (b o:Bool) (ss:Specs):Specs:={ ss with cut:=b,opn:=o }
theorem Specs.okA_cutIf {b o:Bool} {ss:Specs} {P:Program} {M:Nat->Prop} {w0:World} (h:ss.okA P M w0):(ss.cutIf b o).okA P M w0:=h
def AV.pref (n:Nat) (c:AV):AV:=bif Nat.blt n c.len then c.take n else c
def AV.toTy (rows:Bool) (lh:Nat->Option LE):(T:Ty)->AV->Option T.den
 | .int k,.int k' n=>if k'=k then some n else none
 | .bool,.bool b=>some b
 | .str,.str s=>some s
 | .arr T,a=>match a with
  | .nils=>some ([]:List T.den)
  | .sl T' xs=>if h:T'=T then some (h ▸ xs) else none
  | .own d=>match lh d with
   | some (.froz T' xs)=>if h:T'=T then some (h ▸ xs) else none
   | some (.row _ T' xs)=>if rows then (if h:T'=T then some (h ▸ xs) else none) else none
   | _=>none
  | _=>none
 | .pair A B,a=>match AV.toTy rows lh A (a.take A.size),AV.toTy rows lh B (a.drop A.size) with
  | some x,some y=>some (x,y)
  | _,_=>none
 | .nil,a=>match a with
  | .nils=>some ()
  | _=>none
 | .ref T,a=>match a with
  | .pt T' x 0=>if h:T'=T then some (h ▸ x) else none
  | .loc d 0=>if rows then match lh d with
   | some (.cells c)=>AV.toTy true lh T (c.pref T.size)
   | _=>none
   else none
  | _=>none
 | .fn A B,a=>match a with
  | .fd A' B' g=>if h:A'=A/\B'=B then some (h.1 ▸ h.2 ▸ g) else none
  | _=>none
 | .map k V,a=>match a with
  | .nilm=>some ([]:List (Int×V.den))
  | .md k' V' m=>if h:k'=k/\V'=V then some (h.2 ▸ m) else none
  | .mp d=>match lh d with
   | some (.frozm k' V' m)=>if h:k'=k/\V'=V then some (h.2 ▸ m) else none
   | some (.mapp k' V' m)=>if rows then (if h:k'=k/\V'=V then some (h.2 ▸ m) else none) else none
   | _=>none
  | _=>none
 | _,_=>none
def ry (g:(T:Ty)->AV->Option T.den):(Ts:List Ty)->List AV->Option (gm Ts)
 | [],avs=>match avs with
  | []=>some ()
  | _::_=>none
 | [T],avs=>match avs with
  | [a]=>g T a
  | _=>none
 | T::U::Ts,avs=>match avs with
  | []=>none
  | a::avs=>match g T a,ry g (U::Ts) avs with
   | some x,some y=>some (x,y)
   | _,_=>none
def Ll (rows:Bool) (lh:Nat->Option LE):(Ts:List Ty)->List AV->Option (gm Ts):=ry fun T a=>a.toTy rows lh T
def full (w:World):PH:=fun b=>match w.heap[b]? with | some (.cells cs _ _)=>some (.cells cs) | some (.map es c)=>some (.map es c) | _=>none
section
variable {M:Nat->Prop} {p0:PH} {w0:World} {S:St} {tm:Array Value} {w:World} {p:PH} {β:Nat->Value} {P:Program}
theorem Ko {w w':World} {q:PH} (h:Laid w) (hq:PH.le (full w) q) (hg:Agrees q w'):Laid w':=by
 intro t ht;have h1:=h t ht
 have hc:∀ {cs ty fz},w.heap[t.1]?=some (.cells cs ty fz)->∃ t' fz',w'.heap[t.1]?=some (.cells cs t' fz'):=by
  intro cs ty fz e;have h2:full w t.1=some (.cells cs):=by unfold Go.Proofs.YtmfileeamnfpaaaGreatDoor.full; rw [e]
  exact hg _ _ (hq _ _ h2)
 have cell:∀ {u:Value},w.cell? ⟨t.1,t.2.1,none⟩=some u->w'.cell? ⟨t.1,t.2.1,none⟩=some u:=by
  intro u hu;unfold World.cell? at hu |-;simp only at hu |-;split at hu
  ·rename_i cs ty fz e;obtain ⟨t',fz',e'⟩:=hc e;simp only [e'];exact hu
  ·cases hu
 generalize t.2.2=v at h1 |-;cases v
 case nilIface=>obtain ⟨te,pe,e⟩:=h1; exact ⟨te,pe,cell e⟩
 case agg cs=>obtain ⟨ty,fz,e⟩:=h1; exact hc e
 all_goals exact cell h1
theorem nu (w:World):Agrees (full w) w:=by
 intro b cs h;unfold full at h;split at h
 ·rename_i cs' t fz e;injection h with h
  subst h;exact ⟨t,fz,e⟩
 ·rename_i es c e;injection h with h
  subst h;exact e
 ·cases h
theorem qO (h:Agrees p w):PH.le p (full w):=by
 intro b cs hb;have h1:=h b cs hb;cases cs with
 | cells cs=>obtain ⟨t,fz,e⟩:=h1; simp [full,e]
 | map es c=>have e:w.heap[b]?=some (.map es c):=h1; simp [full,e]
theorem u7 (hS:SatB M p0 w0 S tm w p β) {d:Nat} {e:TypeId} {T:Ty} {xs:List T.den} (hd:S.lh d=some (.row e T xs)):(Ty.arr T).holds (full w) xs [β d]:=by
 obtain ⟨l,h1,h2,h3⟩:=hS.lhs d _ hd;rcases h1.2 with ⟨e0,h0⟩ | ⟨g,cap,cur,e1,_,e2,e3,_,e4,e5⟩
 ·have:xs=[]:=QF h0;subst this;exact ⟨none,0,[],by rw [e0]; rfl,by simp,by simp,rfl,fun h=>absurd rfl h⟩
 ·refine ⟨_,cap,l,by rw [e1],e3,h3,c8 (fun x cs h=>Ty.holds_mono (qO hS.agr) T x cs h) _ _ h2,fun _=>⟨g,0,rfl,fun j u hu=>?_⟩⟩;have:(full w) g=some (.cells cur):=by simp [full,e2]
  simp only [PH.cell,this,Rl,Sg,Blk.get];rw [<- e5,List.getElem?_take] at hu;split at hu
  ·simpa using hu
  ·cases hu
theorem CD (n:Nat):AV.any.take n=.any:=by
 match n with
 | 0=>rfl
 | 1=>rfl
 | k+2=>rfl
theorem lC {rows:Bool} {lh:Nat->Option LE}:∀ (T:Ty),AV.toTy rows lh T .any=none
 | .int _=>rfl
 | .bool=>rfl
 | .str=>rfl
 | .arr _=>rfl
 | .nil=>rfl
 | .ref _=>rfl
 | .fn _ _=>rfl
 | .map _ _=>rfl
 | .pair A B=>by
  have:=lC (rows:=rows) (lh:=lh) A;simp only [AV.toTy,CD,this]
theorem bc (hS:SatB M p0 w0 S tm w p β) {rows:Bool}:∀ (T:Ty) (a:AV) (x:T.den) (cs:List Value),a.toTy rows S.lh T=some x->a.cells p β cs->T.holds (if rows then full w else p) x cs
 | .int k,a,x,cs,h,hc=>by
  cases a <;> (first | (simp [AV.toTy] at h; done) | skip);simp only [AV.toTy] at h;split at h
  ·rename_i hk;subst hk;injection h with h
   subst h;obtain ⟨v,rfl,hv⟩:=(AV.cells_leaf _ (by intro x y e; cases e) cs).1 hc;exact ⟨by rw [hv.1],hv.2⟩
  ·cases h
 | .bool,a,x,cs,h,hc=>by
  cases a <;> (first | (simp [AV.toTy] at h; done) | skip);simp only [AV.toTy] at h;injection h with h
  subst h;obtain ⟨v,rfl,hv⟩:=(AV.cells_leaf _ (by intro x y e; cases e) cs).1 hc;simp only [AV.one] at hv;simp only [Ty.holds,hv]
 | .str,a,x,cs,h,hc=>by
  cases a <;> (first | (simp [AV.toTy] at h; done) | skip);simp only [AV.toTy] at h;injection h with h
  subst h;obtain ⟨v,rfl,hv⟩:=(AV.cells_leaf _ (by intro x y e; cases e) cs).1 hc;exact ⟨by rw [hv.1],hv.2⟩
 | .arr T,a,x,cs,h,hc=>by
  have up:∀ {xs:List T.den} {v:Value},(Ty.arr T).holds p xs [v]->(Ty.arr T).holds (if rows then full w else p) xs [v]:=by
   intro xs v hv;cases rows
   ·exact hv
   ·exact Ty.holds_mono (qO hS.agr) _ _ _ hv
  cases a <;> (first | (simp [AV.toTy] at h; done) | skip)
  ·simp only [AV.toTy] at h;injection h with h
   subst h;obtain ⟨v,rfl,hv⟩:=(AV.cells_leaf _ (by intro x y e; cases e) cs).1 hc;simp only [AV.one] at hv;subst hv;exact ⟨none,0,[],rfl,by simp,by simp,rfl,fun h=>absurd rfl h⟩
  ·simp only [AV.toTy] at h;split at h
   ·rename_i hT;subst hT;injection h with h
    subst h;obtain ⟨v,rfl,hv⟩:=(AV.cells_leaf _ (by intro x y e; cases e) cs).1 hc;exact up hv
   ·cases h
  ·rename_i d;obtain ⟨v,rfl,hv⟩:=(AV.cells_leaf _ (by intro x y e; cases e) cs).1 hc;simp only [AV.one] at hv;subst hv;simp only [AV.toTy] at h;split at h
   ·rename_i T' xs hd;split at h
    ·rename_i hT;subst hT;injection h with h
     subst h;exact up (hS.lhs d _ hd)
    ·cases h
   ·rename_i e T' xs hd;cases rows
    ·simp at h
    ·simp only [if_true] at h;split at h
     ·rename_i hT;subst hT;injection h with h
      subst h;exact u7 hS hd
     ·cases h
   ·cases h
 | .pair A B,a,x,cs,h,hc=>by
  simp only [AV.toTy] at h;split at h
  ·rename_i x1 y1 h1 h2;injection h with h
   subst h;have hA:=Ty.size_pos A
   have key:A.size<cs.length:=by
    rcases QO A.size cs.length with hlt | hge
    ·exact hlt
    ·exfalso;have hl:=AV.len_cells a cs hc
     have:(a.drop A.size)=.any:=by
      have gen:∀ (k:Nat) (a:AV),a.len<=k->0<k->a.drop k=.any:=by
       intro k
       induction k with
       | zero=>intro a _ h; omega
       | succ k ih =>
        intro a hle _;cases a <;> simp only [AV.drop];rename_i x y;simp only [AV.len] at hle;rcases Nat.eq_zero_or_pos k with hk | hk
        ·subst hk;cases y <;> simp only [AV.len] at hle <;> omega
        ·exact ih y (by omega) hk
      exact gen A.size a (by omega) hA
     rw [this] at h2;rw [lC] at h2;cases h2
   refine ⟨cs.take A.size,cs.drop A.size,(Ru _ _).symm,?_,?_⟩
   ·exact bc hS A _ _ _ h1 (AV.cells_take _ a cs hc hA (by omega))
   ·exact bc hS B _ _ _ h2 (AV.cells_drop _ a cs hc key)
  ·cases h
 | .nil,a,x,cs,h,hc=>by
  cases a <;> (first | (simp [AV.toTy] at h; done) | skip);obtain ⟨v,rfl,hv⟩:=(AV.cells_leaf _ (by intro x y e; cases e) cs).1 hc;simp only [AV.one] at hv;subst hv;exact rfl
 | .fn A B,a,x,cs,h,hc=>by
  cases a <;> (first | (simp [AV.toTy] at h; done) | skip);simp only [AV.toTy] at h;split at h
  ·rename_i hT;obtain ⟨rfl,rfl⟩:=hT;injection h with h
   subst h;obtain ⟨v,rfl,hv⟩:=(AV.cells_leaf _ (by intro x y e; cases e) cs).1 hc;cases rows
   ·exact hv
   ·exact Ty.holds_mono (qO hS.agr) _ _ _ hv
  ·cases h
 | .map k V,a,x,cs,h,hc=>by
  have hle:PH.le p (if rows=true then full w else p):=by
   cases rows
   ·exact PH.le.refl p
   ·exact qO hS.agr
  cases a <;> (first | (simp [AV.toTy] at h; done) | skip)
  ·rename_i d;obtain ⟨v,rfl,hv⟩:=(AV.cells_leaf _ (by intro x y e; cases e) cs).1 hc;simp only [AV.one] at hv;subst hv;simp only [AV.toTy] at h;split at h
   ·rename_i k' V' m hd;split at h
    ·rename_i hT;obtain ⟨rfl,rfl⟩:=hT;injection h with h
     subst h;exact Ty.holds_mono hle _ _ _ (hS.lhs d _ hd)
    ·cases h
   ·rename_i k' V' m hd;cases rows
    ·simp at h
    ·simp only [if_true] at h hle |-;split at h
     ·rename_i hT;obtain ⟨rfl,rfl⟩:=hT;injection h with h
      subst h;obtain ⟨r,es,clock,e1,e2,_,e4⟩:=hS.lhs d _ hd;exact .inr ⟨r,es,clock,by rw [e1],by simp [full,e2],ci (fun x _=>dJ (fun cs=>Ty.holds_mono hle V' x cs)) _ _ e4⟩
     ·cases h
   ·cases h
  ·simp only [AV.toTy] at h;split at h
   ·rename_i hT;obtain ⟨rfl,rfl⟩:=hT;injection h with h
    subst h;obtain ⟨v,rfl,hv⟩:=(AV.cells_leaf _ (by intro x y e; cases e) cs).1 hc;exact Ty.holds_mono hle _ _ _ hv
   ·cases h
  ·simp only [AV.toTy] at h;injection h with h
   subst h;obtain ⟨v,rfl,hv⟩:=(AV.cells_leaf _ (by intro x y e; cases e) cs).1 hc;simp only [AV.one] at hv;subst hv;exact .inl ⟨rfl,rfl⟩
 | .ref T,a,x,cs,h,hc=>by
  cases a <;> (first | (simp [AV.toTy] at h; done) | skip)
  ·rename_i d off;simp only [AV.toTy] at h;split at h
   ·rename_i hl; cases hl
   case h_3=>cases h
   rename_i d' hl;injection hl with hd ho
   subst hd ho;split at h <;> try cases h
   rename_i hr;subst hr
   have hcc:∃ c,S.lh d=some (.cells c)/\AV.toTy true S.lh T (c.pref T.size)=some x:=by
    cases hl:S.lh d with
    | none=>rw [hl] at h; cases h
    | some e=>cases e <;> rw [hl] at h <;> first | (cases h; done) | exact ⟨_,rfl,h⟩
   obtain ⟨c,hd,h⟩:=hcc;obtain ⟨v,rfl,hv⟩:=(AV.cells_leaf _ (by intro x y e; cases e) cs).1 hc;obtain ⟨b,e1,rfl⟩:=hv;obtain ⟨b',cs',t,e2,e3,e4⟩:=hS.lhs d _ hd;rw [e1] at e2;injection e2 with e2
   injection e2 with e2
   injection e2 with e2
   subst e2
   obtain ⟨m,e5⟩:∃ m,(c.pref T.size).cells p β (cs'.toList.take m):=by
    unfold AV.pref;cases hb:Nat.blt T.size c.len
    ·exact ⟨cs'.toList.length,by rw [List.take_length]; exact e4⟩
    ·have hlt:T.size<c.len:=by simpa using hb
     have hle:=AV.len_cells c _ e4;exact ⟨T.size,AV.cells_take T.size c _ e4 (Ty.size_pos T) (by omega)⟩
   have hh:=bc hS (rows:=true) T _ x _ h e5;simp only [if_true] at hh |-;refine ⟨b,0,_,rfl,hh,fun j u hu=>?_⟩;have:(full w) b=some (.cells cs'):=by simp [full,e3]
   simp only [PH.cell,this,Rl,Sg,Blk.get];rw [List.getElem?_take] at hu;split at hu
   ·simpa using hu
   ·cases hu
  ·simp only [AV.toTy] at h;split at h
   case h_2=>rename_i hl; cases hl
   case h_3=>cases h
   rename_i T' y hl;split at h <;> try cases h
   rename_i hT;subst hT;injection hl with h1 h2 h3
   subst h1 h3;have h2:=eq_of_heq h2;subst h2;obtain ⟨v,rfl,hv⟩:=(AV.cells_leaf _ (by intro x y e; cases e) cs).1 hc;obtain ⟨b,o,es,rfl,k1,k2⟩:=hv
   have hle:PH.le p (if rows=true then full w else p):=by
    cases rows
    ·exact PH.le.refl p
    ·exact qO hS.agr
   exact ⟨b,o,es,by simp,Ty.holds_mono hle _ _ _ k1,fun j u hu=>hle.cell (k2 j u hu)⟩
theorem cR (hS:SatB M p0 w0 S tm w p β) {rows:Bool} {T:Ty} {a:AV} {x:T.den} {v:Value} (h:a.toTy rows S.lh T=some x) (ha:a.val p β tm v):T.vholds (if rows then full w else p) x v:=by
 by_cases hp:∃ y z,a=.pair y z
 ·obtain ⟨y,z,rfl⟩:=hp;obtain ⟨cs,rfl,hc⟩:=ha;have hh:=bc hS T _ x _ h hc;cases T with
  | pair A B=>exact ⟨cs,rfl,hh⟩
  | _=>simp [AV.toTy] at h
 ·cases T with
  | pair A B =>
   exfalso;simp only [AV.toTy] at h;have hA:=Ty.size_pos A
   have:a.drop A.size=.any:=by
    match hk:A.size,hA with
    | k+1,_=>cases a <;> first | rfl | exact absurd ⟨_,_,rfl⟩ hp
   rw [this,lC] at h;split at h <;> simp_all
  | int k =>
   cases a <;> (first | (simp [AV.toTy] at h; done) | skip);exact bc hS (.int k) _ x [v] h (AV.one_cells ha)
  | bool =>
   cases a <;> (first | (simp [AV.toTy] at h; done) | skip);exact bc hS .bool _ x [v] h (AV.one_cells (p:=p) (β:=β) ha)
  | str =>
   cases a <;> (first | (simp [AV.toTy] at h; done) | skip);exact bc hS .str _ x [v] h (AV.one_cells (p:=p) (β:=β) ha)
  | arr T =>
   cases a <;> (first | (simp [AV.toTy] at h; done) | skip)
   ·exact bc hS (.arr T) _ x [v] h (AV.one_cells (p:=p) (β:=β) ha)
   ·exact bc hS (.arr T) _ x [v] h (AV.one_cells (p:=p) (β:=β) ha)
   ·exact bc hS (.arr T) _ x [v] h (AV.one_cells (p:=p) (β:=β) ha)
  | nil =>
   cases a <;> (first | (simp [AV.toTy] at h; done) | skip);exact bc hS .nil _ x [v] h (AV.one_cells (p:=p) (β:=β) ha)
  | ref T =>
   cases a <;> (first | (simp [AV.toTy] at h; done) | skip)
   ·exact bc hS (.ref T) _ x [v] h (AV.one_cells (p:=p) (β:=β) ha)
   ·exact bc hS (.ref T) _ x [v] h (AV.one_cells (p:=p) (β:=β) ha)
  | fn A B =>
   cases a <;> (first | (simp [AV.toTy] at h; done) | skip);exact bc hS (.fn A B) _ x [v] h (AV.one_cells (p:=p) (β:=β) ha)
  | map k V =>
   cases a <;> (first | (simp [AV.toTy] at h; done) | skip)
   ·exact bc hS (.map k V) _ x [v] h (AV.one_cells (p:=p) (β:=β) ha)
   ·exact bc hS (.map k V) _ x [v] h (AV.one_cells (p:=p) (β:=β) ha)
   ·exact bc hS (.map k V) _ x [v] h (AV.one_cells (p:=p) (β:=β) ha)
theorem ib {g:(T:Ty)->AV->Option T.den} {r:PH} (hg:∀ (T:Ty) (a:AV) (x:T.den) (v:Value),g T a=some x->a.val p β tm v->T.vholds r x v) :
  ∀ (Ts:List Ty) (avs:List AV) (x:gm Ts) (vs:List Value),ry g Ts avs=some x->vs.length=avs.length ->
  (∀ (i:Nat) a v,avs[i]?=some a->vs[i]?=some v->a.val p β tm v)->di r Ts x vs
 | [],avs,x,vs,h,hl,_=>by
  cases avs with
  | nil=>exact QF hl
  | cons a avs=>cases h
 | [T],avs,x,vs,h,hl,hv=>by
  match avs,h,hl,hv with
  | [a],h,hl,hv =>
   match vs,hl,hv with
   | [v],_,hv=>exact ⟨v,rfl,hg T a x v h (hv 0 a v rfl rfl)⟩
 | T::U::Ts,avs,x,vs,h,hl,hv=>by
  match avs,h,hl,hv with
  | a::avs,h,hl,hv =>
   match vs,hl,hv with
   | v::vs,hl,hv =>
    unfold ry at h;simp only at h;split at h
    ·rename_i y z h1 h2;injection h with h
     subst h;exact ⟨v,vs,rfl,hg T a y v h1 (hv 0 a v rfl rfl),ib hg (U::Ts) avs z vs h2 (by simpa using hl) (fun i a v ha hb=>hv (i+1) a v (by simpa using ha) (by simpa using hb))⟩
    ·cases h
theorem sB (hS:SatB M p0 w0 S tm w p β) {rows:Bool} (Ts:List Ty) (avs:List AV) (x:gm Ts) (vs:List Value) (h:Ll rows S.lh Ts avs=some x) (hl:vs.length=avs.length)
  (hv:∀ (i:Nat) a v,avs[i]?=some a->vs[i]?=some v->a.val p β tm v):di (if rows then full w else p) Ts x vs :=
 ib (fun _ _ _ _ h ha=>cR hS h ha) Ts avs x vs h hl hv
end
end Go.Proofs.YtmfileeamnfpaaaGreatDoor
