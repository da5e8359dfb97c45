import Derived.Test.YtglchojglcobjaaGreatDoorM2
import Derived.WalkKit
import Derived.KernelRfl
import Derived.Lib.AppendZeros
import Derived.Lib.AppendZerosOnto
import Derived.Lib.Overlaps
import Derived.Laws.Externs
import Derived.Laws.IdiomCopy
import Derived.Laws.CopyRow
import Derived.Shelf.RegionOpenPlain
import Derived.Shelf.Spec.SlicesInsert
import Derived.Deep.Upon
namespace Go.Proofs.YtglchojglcobjaaGreatDoor
section
open Go Go.RowKit Go.Lib
theorem mj {P:Program} (w:World) (dT sT ty elem:TypeId) (K g o n dLen dCap:Nat) (a:Addr) (sLen sCap:Nat) (cur:Array Value) (t:TypeId) (cs:List Value)
  (hu:P.underlying dT=some (.slice elem)) (hs:(P.info? elem).map (·.size)=some K) (hg:w.heap[g]?=some (.cells cur t (0,0))) (hn:n=Nat.min sLen dLen) (hl:cs.length=n * K)
  (hsrc:∀ j v,cs[j]?=some v→w.cell? (a.add j)=some v) (hfit:o+n * K≤cur.size) (h1:∀ v∈cs,v.oneCell'=true) :
  (Builtin.copy_ #[dT,sT] ty #[.slice (some ⟨g,o,none⟩) dLen dCap,.slice (some a) sLen sCap]).run P w =
   .ok (goInt (n:Nat)) (w.setRow g (cur.toList.take o++cs++cur.toList.drop (o+n * K)).toArray):=by
 have hl':=run_loadCells_list (P:=P) w a cs hsrc;have hst:=run_storeCells_at P g o t cs 0 cur w hg (by omega) h1;rw [hl] at hl';rw [hl] at hst;cases hq:P.info? elem with
 | none=>simp [hq] at hs
 | some i =>
  have hi:i.size=K:=by simpa [hq] using hs
  simp [Builtin.copy_,run_underlying hu,Builtin.lenOf,Builtin.firstCells,sizeOf,typeInfo,hq,hi,← hn,hl',hst]
theorem Gp (cur l l2:List Value) {a b c:Nat} (h:cur.take c=l) (ha:a≤c) (hfit:c+b≤cur.length) (h2:l2.length=b) {c1:List Value} (h1:c1=cur.take (a+b)++l.drop a++cur.drop (a+b+(c - a))) :
  c1.length=cur.length∧(c1.take a++l2++c1.drop (a+b)).length=cur.length∧(c1.take a++l2++c1.drop (a+b)).take (c+b)=l.take a++l2++l.drop a:=by
 have hl:l.length=c:=by rw [← h]; simp; omega
 have e1:(cur.take (a+b)).length=a+b:=by simp; omega
 have e2:c1.length=cur.length:=by rw [h1]; simp; omega
 have e3:c1.take a=l.take a:=by
  rw [h1,List.append_assoc,List.take_append_of_le_length (by omega),List.take_take,Nat.min_eq_left (by omega),← h,List.take_take,Nat.min_eq_left ha]
 have e4:c1.drop (a+b)=l.drop a++cur.drop (a+b+(c - a)):=by
  rw [h1,List.append_assoc,List.drop_append_of_le_length (by omega),List.drop_of_length_le (by omega),List.nil_append]
 refine ⟨e2,?_,?_⟩
 ·rw [e3,e4]; simp; omega
 ·rw [e3,e4,← List.append_assoc,List.take_append_of_le_length (by simp; omega),List.take_of_length_le (by simp; omega)]
theorem DI (l l2 z:List Value) {a b c G:Nat} (hl:l.length=c) (ha:a≤c) (h2:l2.length=b) (hz:a+z.length=G) (hG:c+b≤G) {c0 c1:List Value} (h0:c0=l.take a++z)
  (h1:c1=c0.take a++l2++c0.drop (a+b)) :
  c0.length=G∧c1.length=G∧(c1.take (a+b)++l.drop a++c1.drop (a+b+(c - a))).length=G∧(c1.take (a+b)++l.drop a++c1.drop (a+b+(c - a))).take (c+b)=l.take a++l2++l.drop a:=by
 have e0:c0.length=G:=by rw [h0]; simp; omega
 have e1:c0.take a=l.take a:=by rw [h0,List.take_append_of_le_length (by simp; omega),List.take_take,Nat.min_self]
 have e2:c1.length=G:=by rw [h1]; simp; omega
 have e3:c1.take (a+b)=l.take a++l2:=by
  rw [h1,e1,List.take_append_of_le_length (by simp; omega),List.take_of_length_le (by simp; omega)]
 refine ⟨e0,e2,by rw [e3]; simp; omega,?_⟩;rw [e3,List.take_append_of_le_length (by simp; omega),List.take_of_length_le (by simp; omega)]
theorem lc {P:Program} {ops:Array Oper} {o:Oper} {a:Act} {w:World} {K:Act→World→Prop} {Q:Exit→Act→World→Prop} {E:Prop}
  (hg:o.guard=none) (d x:Operand) (t tn:TypeId) (hop:o.op=Op.call { callee:=Callee.builtin Builtin.append,args:=#[d,x],argTypes:=#[t,tn] })
  (v u:Value) (hd:a.eval d=v) (hx:a.eval x=u) {v':Value} {w':World} (hr:(Builtin.append_ #[t,tn] o.type #[v,u]).run P w=.ok v' w') (hK:K (a.put o.dst v') w') :
  if Region.wanted o (yielded ops a.tmps)=true then Oper.wp P o a w K Q else E:=by
 have hw:Region.wanted o (yielded ops a.tmps)=true:=by simp [Region.wanted,hg]
 rw [if_pos hw];exact Lib.wp_append_run w d x t tn hop v u hd hx v' w' hr hK
theorem kc {P:Program} (w:World) {ops:Array Oper} {rest:List Oper} {o:Oper} {a:Act} {Q:Exit→Act→World→Prop} (hgd:o.guard=none) (x:Operand) (t:TypeId)
  (ho:o.op=.call { callee:=.builtin .clear,args:=#[x],argTypes:=#[t] }) (vx:Value) (hx:a.eval x=vx)
  (v':Value) (w':World) (hr:(Builtin.clear_ #[t] o.type #[vx]).run P w=.ok v' w') (h:wpList P ops Q rest (a.put o.dst v') w'):wpList P ops Q (o::rest) a w :=
 wpList_plain hgd fun _ hK=>by
  unfold Oper.wp execOp;simp only [ho,resolve,invoke,builtin,Sem.run_bind,Sem.run_pure,Result.andThen_ok,List.map_toArray,List.map_cons,List.map_nil,hx,hr];exact hK _ _ h
def iT {α:Type} (xs ys:List α) (i:Int):List α:=xs.take i.toNat++ys++xs.drop i.toNat
def CI {α:Type} (xs:List α) (i j:Int):List α:=xs.take i.toNat++xs.drop j.toNat
theorem fO (w:World) {g:Nat} (cs:Array Value) {cur:Array Value} {t:TypeId} (h:w.heap[g]?=some (.cells cur t (0,0))):w.grownBy (w.setRow g cs) (some g):=by
 obtain ⟨_,h2,h3,h4,h5,h6⟩:=cq w g cs h;exact ⟨h2,h3,h4,by omega,fun k _ hk=>h6 k (fun e=>hk (by rw [e]))⟩
theorem jP (w:World) (row:Option Nat):w.grownBy w.drew row:=⟨rfl,rfl,rfl,Nat.le_refl _,fun _ _ _=>rfl⟩
theorem zE (w:World) (o:Go.Obj) (row:Option Nat):w.grownBy (w.alloc o) row:=⟨rfl,rfl,rfl,by simp,fun k hk _=>heap_alloc_old w o hk⟩
theorem uo {w w1 w2:World} {N:Nat} {row:Option Nat} (h:w.grownBy w1 row) (k:w1.grownBy w2 (some N)) (hN:w.heap.size≤N):w.grownBy w2 row :=
 ⟨k.os.trans h.os,k.tape.trans h.tape,k.output.trans h.output,Nat.le_trans h.size k.size,fun i hi hne=>(k.block i (Nat.lt_of_lt_of_le hi h.size) (fun e=>by injection e; omega)).trans (h.block i hi hne)⟩
def C3 (P:Program) (F:FuncId) (S:TypeId) (Z:Nat):Prop :=
 ∀ (w W1 W2:World) (g n c i vb m vc:Nat) (tA tB:TypeId) (kA kB:Nat),i<n→0<m→n+m≤c→c≤9223372036854775807→vb≠g →
  w.shape? vb=some (tA,kA)→w.shape? g=some (tB,kB)→kB≠0→w.frozen? ⟨vb,0,none⟩=false→w.frozen? ⟨vb,kA,none⟩=false →
  (∀ ty (d1 d2 d3 d4:Nat),d1=n - i→d2=n+m - i→(Builtin.copy_ #[S,S] ty #[.slice (some ⟨g,(i+m) * Z,none⟩) d1 d3,.slice (some ⟨g,i * Z,none⟩) d2 d4]).run P w.drew=.ok (goInt (n - i:Nat)) W1) →
  (∀ ty (d1 d3:Nat),d1=n+m - i→(Builtin.copy_ #[S,S] ty #[.slice (some ⟨g,i * Z,none⟩) d1 d3,.slice (some ⟨vb,0,none⟩) m vc]).run P W1=.ok (goInt (m:Nat)) W2) →
  Calls P F #[.slice (some ⟨g,0,none⟩) n c,.int .i64 i,.slice (some ⟨vb,0,none⟩) m vc] w fun e w'=>e=.returned (.slice (some ⟨g,0,none⟩) (n+m) c)∧w'=W2
def FV (P:Program) (F:FuncId) (S I:TypeId) (Z:Nat):Prop :=
 ∀ (w W0 W1 W2:World) (g N n c i vb m vc G:Nat),i<n→0<m→n≤c→c<n+m→n+m≤G→n+m≤9223372036854775807→G≤9223372036854775807 →
  (∀ ty,(Builtin.append_ #[S,I] ty #[.slice (some ⟨g,0,none⟩) i c,.int .i64 ((n:Int)+(m:Int) - (i:Int))]).run P w=.ok (.slice (some ⟨N,0,none⟩) (n+m) G) W0) →
  (∀ ty (d1 d3:Nat),d1=n+m - i→(Builtin.copy_ #[S,S] ty #[.slice (some ⟨N,i * Z,none⟩) d1 d3,.slice (some ⟨vb,0,none⟩) m vc]).run P W0=.ok (goInt (m:Nat)) W1) →
  (∀ ty (d1 d2 d3 d4:Nat),d1=n - i→d2=n - i→(Builtin.copy_ #[S,S] ty #[.slice (some ⟨N,(i+m) * Z,none⟩) d1 d3,.slice (some ⟨g,i * Z,none⟩) d2 d4]).run P W1.drew=.ok (goInt (n - i:Nat)) W2) →
  Calls P F #[.slice (some ⟨g,0,none⟩) n c,.int .i64 i,.slice (some ⟨vb,0,none⟩) m vc] w fun e w'=>e=.returned (.slice (some ⟨N,0,none⟩) (n+m) G)∧w'=W2
def Ki (P:Program) (F:FuncId) (S:TypeId):Prop :=
 ∀ (w W:World) (A:Option Addr) (n c vb m vc:Nat) (v':Value),0<m→n≤c→(A=none→n=0∧c=0)→(∀ a,A=some a→a.off=0∧a.spot=none) →
  (Builtin.append_ #[S,S] S #[.slice A n c,.slice (some ⟨vb,0,none⟩) m vc]).run P w=.ok v' W →
  Calls P F #[.slice A n c,.int .i64 n,.slice (some ⟨vb,0,none⟩) m vc] w fun e w'=>e=.returned v'∧w'=W
def gg (E:TypeId) (T:Ty):RowFn:={ e:=E,T:=T,Ts:=[ty_I],out:=true,tail:=true,pre:=fun (xs ys:List T.den) (i:Int)=>0<ys.length∧0≤i∧i≤xs.length∧(xs.length+ys.length) * T.bytes≤aA,F:=fun (xs ys:List T.den) (i:Int)=>iT xs ys i }
theorem KU {P:Program} {T:Ty} {F:FuncId} {S E I:TypeId} (hS:P.underlying S=some (.slice E)) (hI:P.underlying I=some (.int .i64)) (hf:fg P E T=true)
  (shift:C3 P F S T.size) (grow:FV P F S I T.size) (end_:Ki P F S):(gg E T).ok P F:=by
 intro p w v (xs:List T.den) l v2 (ys:List T.den) l2 vs (i:Int) hA hown hl hbig hp hown2 hl2 hne hargs hpre;obtain ⟨hm,hi0,hi1,hb⟩:0<ys.length∧0≤i∧i≤xs.length∧(xs.length+ys.length) * T.bytes≤aA:=hpre;obtain ⟨v1,rfl,hv1⟩:=hargs;have hv1:[v1]=[Value.int .i64 i]∧ak .i64 i:=hv1;obtain ⟨hv1,_⟩:=hv1;injection hv1 with hv1
 subst hv1;obtain ⟨k,rfl⟩:∃ k:Nat,i=k:=⟨i.toNat,by omega⟩;have hk:k≤xs.length:=by omega
 have hown:w.ownsRow 0 E T.size v xs.length l:=hown;have hown2:w.ownsRow 0 E T.size v2 ys.length l2:=hown2;have hl:aX (T.holds p) xs l:=hl;have hl2:aX (T.holds p) ys l2:=hl2;have hbig:xs.length * T.bytes≤aA:=hbig;obtain ⟨inf,z,hinf,hsz,hby,hz,hzs⟩:=dr hf;have hlen:l.length=xs.length * T.size:=hown.1;have hlen2:l2.length=ys.length * T.size:=hown2.1;have h1l:∀ u∈l,u.oneCell'=true:=fA (fun x cs h=>dn T x cs h) xs l hl;have h1l2:∀ u∈l2,u.oneCell'=true:=fA (fun x cs h=>dn T x cs h) ys l2 hl2;have hszE:(P.info? E).map (·.size)=some T.size:=by rw [hinf]; simp [hsz]
 have hpos:=Ty.size_pos T;have eF:((gg E T).F xs ys (k:Int):List T.den)=xs.take k++ys++xs.drop k:=by show iT xs ys k=_; simp [iT]
 have hFl:(xs.take k++ys++xs.drop k).length=xs.length+ys.length:=by simp; omega
 have hrow:aX (T.holds p) (xs.take k++ys++xs.drop k) (l.take (k * T.size)++l2++l.drop (k * T.size)) :=
  cE _ _ _ _ (cE _ _ _ _ (df (fun x cs h=>Ty.holds_length T x cs h) k xs l hl) hl2) (eP (fun x cs h=>Ty.holds_length T x cs h) k xs l hl)
 have hb8:(xs.take k++ys++xs.drop k).length * T.bytes≤aA:=by rw [hFl]; exact hb
 have hb8e:=fj T
 have h63:xs.length+ys.length≤maxLen:=by
  have h2:(xs.length+ys.length) * 8≤(xs.length+ys.length) * T.bytes:=Nat.mul_le_mul_left _ hb8e;simp only [aA,maxLen] at *;omega
 have done:∀ (v':Value) (w':World) (e:Ending),e=.returned v'→w.grownBy w' v.ownBlock→w'.ownsRow 0 E T.size v' (xs.length+ys.length) (l.take (k * T.size)++l2++l.drop (k * T.size))→(∀ b,v'.ownBlock=some b→v.ownBlock=some b∨w.heap.size≤b) →
   ∃ (v':Value) (l':List Value),e=.returned (if (gg E T).out then v' else .tuple #[])∧((gg E T).out=false→v'=v)∧w.grownBy w' v.ownBlock ∧
   w'.ownsRow 0 (gg E T).e (gg E T).T.size v' ((gg E T).F xs ys (k:Int):List T.den).length l'∧aX ((gg E T).T.holds p) ((gg E T).F xs ys (k:Int)) l'∧((gg E T).F xs ys (k:Int):List T.den).length * (gg E T).T.bytes≤aA ∧
   ∀ b,v'.ownBlock=some b→v.ownBlock=some b∨w.heap.size≤b:=by
  intro v' w' e he hg ho hbk;rw [eF];refine ⟨v',_,he,fun h=>(by cases h),hg,?_,hrow,hb8,hbk⟩;show w'.ownsRow 0 E T.size v' (xs.take k++ys++xs.drop k).length _;rw [hFl];exact ho
 rcases hown2.2 with ⟨_,h0⟩ | ⟨g2,cap2,cur2,rfl,_,hb2,h21,h22,h23,h24⟩
 ·omega
 have hvs:∀ (j:Nat) (u:Value),l2[j]?=some u→w.cell? ⟨g2,0+j,none⟩=some u:=by
  intro j u hj
  have:cur2.toList[j]?=some u:=by
   rw [← h24,List.getElem?_take] at hj;split at hj
   ·exact hj
   ·cases hj
  simp only [World.cell?,hb2,Nat.zero_add];simpa using this
 show Calls P F #[v,.int .i64 k,.slice (some ⟨g2,0,none⟩) ys.length cap2] w _;by_cases hkn:k=xs.length
 ·
  obtain ⟨v',w',r1,r2,r3,r4⟩:=kY (ty:=S) hS hf hown hl2 (A:=some ⟨g2,0,none⟩) (c:=cap2) (fun _=>⟨g2,0,rfl,hvs⟩) hb
  have el:l.take (k * T.size)++l2++l.drop (k * T.size)=l++l2:=by
   rw [hkn,List.take_of_length_le (by omega),List.drop_of_length_le (by omega),List.append_nil]
  have main:∀ (A:Option Addr) (n c:Nat),v=.slice A n c→xs.length=n→n≤c→(A=none→n=0∧c=0)→(∀ a,A=some a→a.off=0∧a.spot=none) →
    Calls P F #[v,.int .i64 (xs.length:Int),.slice (some ⟨g2,0,none⟩) ys.length cap2] w fun e W=>e=.returned v'∧W=w':=by
   intro A n c hv hn h1 h2 h3;have h:=end_ w w' A n c g2 ys.length cap2 v' hm h1 h2 h3 (by rw [← hv]; exact r1);rw [← hv,← hn] at h;exact h
  have hcall:Calls P F #[v,.int .i64 (xs.length:Int),.slice (some ⟨g2,0,none⟩) ys.length cap2] w fun e W=>e=.returned v'∧W=w':=by
   rcases hown.2 with ⟨hv,h0⟩ | ⟨g,cap,cur,hv,_,hbg,h1,h2,h3,h4⟩
   ·exact main none 0 0 hv h0 (Nat.le_refl _) (fun _=>⟨rfl,rfl⟩) (fun a h=>by cases h)
   ·exact main (some ⟨g,0,none⟩) xs.length cap hv rfl h1 (fun h=>by cases h) (fun a h=>by injection h with h; subst h; exact ⟨rfl,rfl⟩)
  subst hkn;refine hcall.mono fun e W h=>?_
  obtain ⟨rfl,rfl⟩:=h
  exact done v' _ _ rfl r3 (by rw [el]; exact r2) (fun b hb'=>by
   rcases r4 with r4 | r4
   ·exact .inl (by rw [← r4]; exact hb')
   ·rw [r4] at hb';injection hb' with hb'
    exact .inr (by omega))
 have hkl:k<xs.length:=by omega
 rcases hown.2 with ⟨_,h0⟩ | ⟨g,cap,cur,rfl,_,hbg,h1,h2,h3,h4⟩
 ·omega
 have hgs:g<w.heap.size:=(Array.getElem?_eq_some_iff.1 hbg).1;have hvb:g2≠g:=fun e=>hne g rfl (by rw [e]; rfl)
 have hcap:cap≤9223372036854775807:=by unfold maxLen at h2; omega
 have hkz:(k+ys.length) * T.size=k * T.size+ys.length * T.size:=Nat.add_mul _ _ _;have hnz:(xs.length+ys.length) * T.size=xs.length * T.size+ys.length * T.size:=Nat.add_mul _ _ _;have hkn':k * T.size≤xs.length * T.size:=Nat.mul_le_mul_right _ hk;have hdz:(xs.length - k) * T.size=xs.length * T.size - k * T.size:=Nat.sub_mul _ _ _;have hdrop:((l.drop (k * T.size)).length)=(xs.length - k) * T.size:=by rw [List.length_drop,hlen,hdz]
 have hlc:cur.toList.length=cap * T.size:=by simpa using h3
 have hsrc:∀ (j:Nat) (u:Value),(l.drop (k * T.size))[j]?=some u→w.cell? ⟨g,k * T.size+j,none⟩=some u:=by
  intro j u hj;rw [List.getElem?_drop] at hj
  have:cur.toList[k * T.size+j]?=some u:=by
   rw [← h4,List.getElem?_take] at hj;split at hj
   ·exact hj
   ·cases hj
  simp only [World.cell?,hbg];simpa using this
 by_cases hroom:xs.length+ys.length≤cap
 ·
  have hfit:xs.length * T.size+ys.length * T.size≤cur.toList.length:=by
   rw [hlc,← hnz];exact Nat.mul_le_mul_right _ hroom
  have hkB:cur.size≠0:=by
   have:0<xs.length * T.size:=Nat.mul_pos (by omega) hpos;have:cur.toList.length=cur.size:=by simp
   omega
  have hgd:w.drew.heap[g]?=some (.cells cur E (0,0)):=hbg
  have hcp1:=fun ty (d1 d2 d3 d4:Nat) (e1:d1=xs.length - k) (e2:d2=xs.length+ys.length - k)=>mj (P:=P) w.drew S S ty E T.size g ((k+ys.length) * T.size) (xs.length - k) d1 d3 ⟨g,k * T.size,none⟩ d2 d4 cur E (l.drop (k * T.size)) hS hszE hgd
   (by rw [e1,e2]; simp only [Nat.min_def]; split <;> omega) hdrop (fun j u hj=>by rw [Addr.add_lit]; exact hsrc j u hj) (by
    have:cur.toList.length=cur.size:=by simp
    rw [hkz,hdz]; omega) (fun u hu=>h1l u (List.mem_of_mem_drop hu))
  obtain ⟨C1,hC1⟩:∃ C1:List Value,C1=cur.toList.take ((k+ys.length) * T.size)++l.drop (k * T.size)++cur.toList.drop ((k+ys.length) * T.size+(xs.length - k) * T.size):=⟨_,rfl⟩;rw [← hC1] at hcp1;obtain ⟨s1,s2,s3⟩:=Gp cur.toList l l2 (a:=k * T.size) (b:=ys.length * T.size) (c:=xs.length * T.size) h4 hkn' hfit hlen2 (c1:=C1) (by rw [hC1,hkz,hdz]);have hg1:(w.drew.setRow g C1.toArray).heap[g]?=some (.cells C1.toArray E (0,0)):=(cq w.drew g C1.toArray hgd).1;have ho1:∀ b,b≠g→(w.drew.setRow g C1.toArray).heap[b]?=w.heap[b]?:=(cq w.drew g C1.toArray hgd).2.2.2.2.2
  have hcp2:=fun ty (d1 d3:Nat) (e1:d1=xs.length+ys.length - k)=>mj (P:=P) (w.drew.setRow g C1.toArray) S S ty E T.size g (k * T.size) ys.length d1 d3 ⟨g2,0,none⟩ ys.length cap2 C1.toArray E l2 hS hszE hg1
   (by rw [e1]; simp only [Nat.min_def]; split <;> omega) hlen2 (fun j u hj=>by
    rw [Addr.add_lit];have:=hvs j u hj;simp only [World.cell?,ho1 g2 hvb] at this ⊢;exact this) (by simp only [List.size_toArray,s1]; omega) h1l2
  refine (shift w _ _ g xs.length cap k g2 ys.length cap2 E E cur2.size cur.size hkl hm hroom hcap hvb (by simp [World.shape?,hb2]) (by simp [World.shape?,hbg]) hkB (by simp [World.frozen?,hb2]) (by simp [World.frozen?,hb2]) hcp1 hcp2).mono ?_;rintro e w' ⟨rfl,rfl⟩;have hg2:=(cq (w.drew.setRow g C1.toArray) g ((C1.take (k * T.size)++l2++C1.drop (k * T.size+ys.length * T.size)).toArray) hg1).1;simp only at hg2 ⊢;refine done _ _ _ rfl (((jP w _).trans (fO w.drew _ hgd)).trans (fO _ _ hg1)) ⟨?_,.inr ⟨g,cap,_,rfl,Nat.zero_le _,hg2,hroom,h2,?_,?_⟩⟩ (fun b h=>.inl h)
  ·simp only [List.length_append,List.length_take,List.length_drop,hlen,hlen2,hnz];omega
  ·rw [List.size_toArray,s2,hlc]
  ·rw [List.toList_toArray,hnz,s3]
 ·
  have hroom:cap<xs.length+ys.length:=by omega
  have grow0:=grownCap_ge w (xs.length+ys.length) cap E;have growM:=grownCap_le_maxLen w (xs.length+ys.length) cap E h63;have hbi:(xs.length+ys.length) * inf.bytes≤140737488355328:=Nat.le_trans (Nat.mul_le_mul_left _ hby) hb;have hkk:(xs.length:Int)+(ys.length:Int) - (k:Int)=((xs.length+ys.length - k:Nat):Int):=by omega
  have hik:k+(xs.length+ys.length - k)=xs.length+ys.length:=by omega
  have hold:(Builtin.firstCells inf.size k (.slice (some ⟨g,0,none⟩) k cap)).run P w.drew=.ok (l.take (k * T.size)).toArray w.drew:=by
   rw [hsz];refine run_firstCells_some w.drew T.size k ⟨g,0,none⟩ k cap (l.take (k * T.size)) (by rw [List.length_take,hlen]; omega) (fun j u hj=>?_);rw [Addr.add_lit];rw [List.getElem?_take] at hj;split at hj
   ·have:cur.toList[j]?=some u:=by
     rw [← h4,List.getElem?_take] at hj;split at hj
     ·exact hj
     ·cases hj
    show w.cell? _=_;simp only [World.cell?,hbg,Nat.zero_add];simpa using this
   ·cases hj
  have hap:∀ ty,(Builtin.append_ #[S,I] ty #[.slice (some ⟨g,0,none⟩) k cap,.int .i64 ((xs.length:Int)+(ys.length:Int) - (k:Int))]).run P w=.ok (.slice (some ⟨w.heap.size,0,none⟩) (xs.length+ys.length) (grownCap w (xs.length+ys.length) cap E)) (w.drew.alloc (.cells ((l.take (k * T.size)).toArray++Builtin.zeroCells z.cells (xs.length+ys.length - k)++Builtin.zeroCells z.cells (grownCap w (xs.length+ys.length) cap E - (xs.length+ys.length))) E)):=fun ty=>by
   have h:=Lib.run_append_grow_zeros (P:=P) w S I ty E inf z .i64 .i64 hS hI hinf hz (some ⟨g,0,none⟩) k cap (l.take (k * T.size)) hold (xs.length+ys.length - k) (by omega) (by omega) (by omega)
    (by rw [hik]; unfold maxLen at h63; omega) (by
     have:(xs.length+ys.length - k) * inf.bytes≤(xs.length+ys.length) * inf.bytes:=Nat.mul_le_mul_right _ (by omega);omega) (by rw [hik]; exact growslice_fits hroom hbi)
   rw [hik] at h;rw [hkk];exact h
  obtain ⟨G,hG⟩:∃ G,G=grownCap w (xs.length+ys.length) cap E:=⟨_,rfl⟩;rw [← hG] at hap grow0 growM;obtain ⟨ROW,hROW⟩:∃ ROW:Array Value,ROW=(l.take (k * T.size)).toArray++Builtin.zeroCells z.cells (xs.length+ys.length - k)++Builtin.zeroCells z.cells (G - (xs.length+ys.length)):=⟨_,rfl⟩;rw [← hROW] at hap;have hGz:(xs.length+ys.length) * T.size≤G * T.size:=Nat.mul_le_mul_right _ grow0;have hRl:ROW.toList=l.take (k * T.size)++((Builtin.zeroCells z.cells (xs.length+ys.length - k)).toList++(Builtin.zeroCells z.cells (G - (xs.length+ys.length))).toList):=by rw [hROW]; simp
  have hzl:((Builtin.zeroCells z.cells (xs.length+ys.length - k)).toList++(Builtin.zeroCells z.cells (G - (xs.length+ys.length))).toList).length=G * T.size - k * T.size:=by
   have zl:∀ n,(Builtin.zeroCells z.cells n).toList.length=n * T.size:=fun n=>by rw [Array.length_toList,size_zeroCells,hzs]
   rw [List.length_append,zl,zl,Nat.sub_mul,Nat.sub_mul];omega
  have hN:(w.drew.alloc (.cells ROW E)).heap[w.heap.size]?=some (.cells ROW E (0,0)):=heap_alloc_new w.drew _;have hold2:∀ b,b<w.heap.size→(w.drew.alloc (.cells ROW E)).heap[b]?=w.heap[b]?:=fun b hb=>heap_alloc_old w.drew _ hb
  have hg2s:g2<w.heap.size:=(Array.getElem?_eq_some_iff.1 hb2).1;obtain ⟨C1,hC1⟩:∃ C1:List Value,C1=ROW.toList.take (k * T.size)++l2++ROW.toList.drop (k * T.size+ys.length * T.size):=⟨_,rfl⟩;obtain ⟨s0,s1,s2,s3⟩:=DI l l2 _ (a:=k * T.size) (b:=ys.length * T.size) (c:=xs.length * T.size) (G:=G * T.size) hlen hkn' hlen2 (by rw [hzl]; omega) (by omega) (c0:=ROW.toList) hRl (c1:=C1) hC1;have hRs:ROW.size=G * T.size:=by simpa using s0
  have hcp1:=fun ty (d1 d3:Nat) (e1:d1=xs.length+ys.length - k)=>mj (P:=P) (w.drew.alloc (.cells ROW E)) S S ty E T.size w.heap.size (k * T.size) ys.length d1 d3 ⟨g2,0,none⟩ ys.length cap2 ROW E l2 hS hszE hN
   (by rw [e1]; simp only [Nat.min_def]; split <;> omega) hlen2 (fun j u hj=>by
    rw [Addr.add_lit];have:=hvs j u hj;simp only [World.cell?,hold2 g2 hg2s] at this ⊢;exact this) (by rw [hRs]; omega) h1l2
  rw [← hC1] at hcp1;have hN1:((w.drew.alloc (.cells ROW E)).setRow w.heap.size C1.toArray).drew.heap[w.heap.size]?=some (.cells C1.toArray E (0,0)):=(cq _ w.heap.size C1.toArray hN).1;have ho1:∀ b,b<w.heap.size→((w.drew.alloc (.cells ROW E)).setRow w.heap.size C1.toArray).drew.heap[b]?=w.heap[b]?:=fun b hb=>((cq _ w.heap.size C1.toArray hN).2.2.2.2.2 b (by omega)).trans (hold2 b hb)
  have hcp2:=fun ty (d1 d2 d3 d4:Nat) (e1:d1=xs.length - k) (e2:d2=xs.length - k)=>mj (P:=P) ((w.drew.alloc (.cells ROW E)).setRow w.heap.size C1.toArray).drew S S ty E T.size w.heap.size ((k+ys.length) * T.size) (xs.length - k) d1 d3 ⟨g,k * T.size,none⟩ d2 d4 C1.toArray E (l.drop (k * T.size)) hS hszE hN1
   (by rw [e1,e2]; simp only [Nat.min_def]; split <;> omega) hdrop (fun j u hj=>by
    rw [Addr.add_lit];have:=hsrc j u hj;simp only [World.cell?,ho1 g hgs] at this ⊢;exact this) (by simp only [List.size_toArray,s1]; rw [hkz,hdz]; omega) (fun u hu=>h1l u (List.mem_of_mem_drop hu))
  refine (grow w _ _ _ g w.heap.size xs.length cap k g2 ys.length cap2 G hkl hm h1 hroom grow0 (by unfold maxLen at h63; omega) (by unfold maxLen at growM; omega) hap hcp1 hcp2).mono ?_;rintro e w' ⟨rfl,rfl⟩;simp only;have hN2:=(cq ((w.drew.alloc (.cells ROW E)).setRow w.heap.size C1.toArray).drew w.heap.size ((C1.take ((k+ys.length) * T.size)++l.drop (k * T.size)++C1.drop ((k+ys.length) * T.size+(xs.length - k) * T.size)).toArray) hN1).1;rw [hkz,hdz] at hN2 ⊢;refine done _ _ _ rfl (uo ((uo ((jP w _).trans (zE w.drew _ _)) (fO _ _ hN) (Nat.le_refl _)).trans (jP _ _)) (fO _ _ hN1) (Nat.le_refl _)) ⟨?_,.inr ⟨w.heap.size,G,_,rfl,Nat.zero_le _,hN2,grow0,growM,?_,?_⟩⟩ (fun b h=>.inr (by have h:some w.heap.size=some b:=h; injection h with h; omega))
  ·simp only [List.length_append,List.length_take,List.length_drop,hlen,hlen2,hnz];omega
  ·rw [List.size_toArray,s2]
  ·rw [List.toList_toArray,hnz,s3]
def E8 (P:Program) (E:TypeId):Bool:=match P.info? E with
 | some i=>match i.zero with
  | some z=>z.cells.toList.all fun u=>u.oneCell'
  | none=>false
 | none=>false
theorem I0 {P:Program} {E:TypeId} (h:E8 P E=true) {i:TypeInfo} {z:Value} (hi:P.info? E=some i) (hz:i.zero=some z):∀ u∈z.cells.toList,u.oneCell'=true:=by
 unfold E8 at h;rw [hi] at h;simp only [hz] at h;exact List.all_eq_true.1 h
def FW (P:Program) (F:FuncId) (S:TypeId) (Z:Nat):Prop :=
 ∀ (w W1 W2:World) (g n c i j:Nat),i<j→j≤n→n≤c→c≤9223372036854775807 →
  (∀ ty a d4,(j=n∨a=(⟨g,j * Z,none⟩:Addr))→(Builtin.append_ #[S,S] ty #[.slice (some ⟨g,0,none⟩) i c,.slice (some a) (n - j) d4]).run P w.drew=.ok (.slice (some ⟨g,0,none⟩) (i+(n - j)) c) W1) →
  (∀ ty d4,(Builtin.clear_ #[S] ty #[.slice (some ⟨g,(i+(n - j)) * Z,none⟩) (j - i) d4]).run P W1=.ok (.tuple #[]) W2) →
  Calls P F #[.slice (some ⟨g,0,none⟩) n c,.int .i64 i,.int .i64 j] w fun e w'=>e=.returned (.slice (some ⟨g,0,none⟩) (i+(n - j)) c)∧w'=W2
def gh (E:TypeId) (T:Ty):RowFn:={ e:=E,T:=T,Ts:=[ty_I,ty_I],out:=true,pre:=fun (xs _:List T.den) ((i,j):Int×Int)=>0≤i∧i<j∧j≤xs.length,F:=fun (xs _:List T.den) ((i,j):Int×Int)=>CI xs i j }
theorem K2 {P:Program} {T:Ty} {F:FuncId} {S E:TypeId} (hS:P.underlying S=some (.slice E)) (hf:fg P E T=true)
  (hz1:∀ i z,P.info? E=some i→i.zero=some z→∀ u∈z.cells.toList,u.oneCell'=true) (walk:FW P F S T.size):(gh E T).ok P F:=by
 intro p w v (xs:List T.den) l v2 (ys:List T.den) l2 vs (x:Int×Int) hA hown hl hbig hp _ _ _ hargs hpre;obtain ⟨i,j⟩:=x;obtain ⟨hi0,hij,hj⟩:0≤i∧i<j∧j≤xs.length:=hpre;obtain ⟨v1,rest,rfl,hv1,v3,rfl,hv3⟩:=hargs;have hv1:[v1]=[Value.int .i64 i]∧ak .i64 i:=hv1;have hv3:[v3]=[Value.int .i64 j]∧ak .i64 j:=hv3;obtain ⟨hv1,_⟩:=hv1;obtain ⟨hv3,_⟩:=hv3;injection hv1 with hv1
 injection hv3 with hv3
 subst hv1 hv3;obtain ⟨i,rfl⟩:∃ k:Nat,i=k:=⟨i.toNat,by omega⟩;obtain ⟨j,rfl⟩:∃ k:Nat,j=k:=⟨j.toNat,by omega⟩;have hown:w.ownsRow 0 E T.size v xs.length l:=hown;have hl:aX (T.holds p) xs l:=hl;have hbig:xs.length * T.bytes≤aA:=hbig;obtain ⟨inf,z,hinf,hsz,hby,hz,hzs⟩:=dr hf;have hlen:l.length=xs.length * T.size:=hown.1;have h1l:∀ u∈l,u.oneCell'=true:=fA (fun x cs h=>dn T x cs h) xs l hl;have hpos:=Ty.size_pos T;have hij':i<j:=by omega
 have hj':j≤xs.length:=by omega
 have eF:((gh E T).F xs ys ((i:Int),(j:Int)):List T.den)=xs.take i++xs.drop j:=by show CI xs i j=_; simp [CI]
 have hFl:(xs.take i++xs.drop j).length=i+(xs.length - j):=by simp; omega
 have hrow:aX (T.holds p) (xs.take i++xs.drop j) (l.take (i * T.size)++l.drop (j * T.size)) :=
  cE _ _ _ _ (df (fun x cs h=>Ty.holds_length T x cs h) i xs l hl) (eP (fun x cs h=>Ty.holds_length T x cs h) j xs l hl)
 rcases hown.2 with ⟨_,h0⟩ | ⟨g,cap,cur,rfl,_,hbg,h1,h2,h3,h4⟩
 ·omega
 have hcap:cap≤9223372036854775807:=by unfold maxLen at h2; omega
 have hiz:i * T.size≤xs.length * T.size:=Nat.mul_le_mul_right _ (by omega);have hjz:j * T.size≤xs.length * T.size:=Nat.mul_le_mul_right _ hj';have hijz:i * T.size≤j * T.size:=Nat.mul_le_mul_right _ (by omega);have hnz:xs.length * T.size≤cap * T.size:=Nat.mul_le_mul_right _ h1;have hdz:(xs.length - j) * T.size=xs.length * T.size - j * T.size:=Nat.sub_mul _ _ _;have hoz:(i+(xs.length - j)) * T.size=i * T.size+(xs.length * T.size - j * T.size):=by rw [Nat.add_mul,hdz]
 have hcz:(j - i) * T.size=j * T.size - i * T.size:=Nat.sub_mul _ _ _;have hlc:cur.toList.length=cap * T.size:=by simpa using h3
 have hdrop:((l.drop (j * T.size)).length)=(xs.length - j) * T.size:=by rw [List.length_drop,hlen,hdz]
 have hsrc:∀ (k:Nat) (u:Value),(l.drop (j * T.size))[k]?=some u→w.cell? ⟨g,j * T.size+k,none⟩=some u:=by
  intro k u hk;rw [List.getElem?_drop] at hk
  have:cur.toList[j * T.size+k]?=some u:=by
   rw [← h4,List.getElem?_take] at hk;split at hk
   ·exact hk
   ·cases hk
  simp only [World.cell?,hbg];simpa using this
 have hgd:w.drew.heap[g]?=some (.cells cur E (0,0)):=hbg;obtain ⟨C1,hC1⟩:∃ C1:List Value,C1=cur.toList.take (i * T.size)++l.drop (j * T.size)++cur.toList.drop (i * T.size+(xs.length * T.size - j * T.size)):=⟨_,rfl⟩
 have hC1l:C1.length=cap * T.size:=by
  rw [hC1];simp only [List.length_append,List.length_take,List.length_drop,hlen,hlc];omega
 have hap:=fun ty (a:Addr) d4 (ha:j=xs.length∨a=⟨g,j * T.size,none⟩)=>run_append_room (P:=P) w.drew S ty E inf hS hinf g i cap cur hgd a (xs.length - j) d4 (l.drop (j * T.size)) (by rw [hsz]; exact hdrop)
  (fun k u hk=>by
   rcases ha with ha | rfl
   ·rw [List.drop_of_length_le (by rw [ha]; omega)] at hk;simp at hk
   ·rw [Addr.add_lit]; exact hsrc k u hk) (fun u hu=>h1l u (List.mem_of_mem_drop hu)) (by omega) (by
    have:cur.toList.length=cur.size:=by simp
    rw [hsz,hdrop,hdz]; omega)
 rw [hsz,hdrop,hdz,← hC1] at hap;have hg1:(w.drew.setRow g C1.toArray).heap[g]?=some (.cells C1.toArray E (0,0)):=(cq w.drew g C1.toArray hgd).1;have hzr:∀ w,(zeroValue E).run P w=.ok z w:=fun w=>by simp [zeroValue,typeInfo,hinf,hz]
 have hzc:z.cells.size=T.size:=hzs
 have hcl:=fun ty d4=>wJ (P:=P) (w:=w.drew.setRow g C1.toArray) hS hzr ty (b:=g) (o:=(i+(xs.length - j)) * T.size) (n:=j - i) (c:=d4) (cur:=C1.toArray) (ct:=E) (by omega) hg1 (fun u hu=>by
  rw [ev z.cells (by omega)] at hu;obtain ⟨y,hy,hu⟩:=List.mem_flatten.1 hu;rw [List.eq_of_mem_replicate hy] at hu
  exact hz1 inf z hinf hz u hu) (by
   have e1:C1.toArray.size=cap * T.size:=by simpa using hC1l
   have e2:(j - i) * z.cells.size=j * T.size - i * T.size:=by rw [hzc,hcz]
   rw [e1,e2,hoz];omega)
 refine (walk w _ _ g xs.length cap i j hij' hj' h1 hcap hap hcl).mono ?_;rintro e w' ⟨rfl,rfl⟩;have hg2:=(cq (w.drew.setRow g C1.toArray) g ((C1.take ((i+(xs.length - j)) * T.size)++(madeCells z.cells ((j - i) * z.cells.size)).toList++C1.drop ((i+(xs.length - j)) * T.size+(j - i) * z.cells.size)).toArray) hg1).1;simp only
 have hml:(madeCells z.cells ((j - i) * z.cells.size)).toList.length=j * T.size - i * T.size:=by
  rw [Array.length_toList,size_madeCells,hzc,hcz]
 have done:∀ (W:World),w.grownBy W (some g)→W.ownsRow 0 E T.size (.slice (some ⟨g,0,none⟩) (i+(xs.length - j)) cap) (i+(xs.length - j)) (l.take (i * T.size)++l.drop (j * T.size)) →
   ∃ (v':Value) (l':List Value),Ending.returned (.slice (some ⟨g,0,none⟩) (i+(xs.length - j)) cap)=.returned (if (gh E T).out then v' else .tuple #[])∧((gh E T).out=false→v'=.slice (some ⟨g,0,none⟩) xs.length cap)∧w.grownBy W (Value.slice (some ⟨g,0,none⟩) xs.length cap).ownBlock ∧
   W.ownsRow 0 (gh E T).e (gh E T).T.size v' ((gh E T).F xs ys ((i:Int),(j:Int)):List T.den).length l'∧aX ((gh E T).T.holds p) ((gh E T).F xs ys ((i:Int),(j:Int))) l'∧((gh E T).F xs ys ((i:Int),(j:Int)):List T.den).length * (gh E T).T.bytes≤aA ∧
   ∀ b,v'.ownBlock=some b→(Value.slice (some ⟨g,0,none⟩) xs.length cap).ownBlock=some b∨w.heap.size≤b:=by
  intro W hg ho;rw [eF];refine ⟨_,l.take (i * T.size)++l.drop (j * T.size),rfl,fun h=>(by cases h),hg,?_,hrow,?_,fun b h=>.inl h⟩
  ·show W.ownsRow 0 E T.size _ (xs.take i++xs.drop j).length _;rw [hFl];exact ho
  ·show (xs.take i++xs.drop j).length * T.bytes≤aA;rw [hFl];exact Nat.le_trans (Nat.mul_le_mul_right _ (by omega)) hbig
 refine done _ (((jP w _).trans (fO w.drew _ hgd)).trans (fO _ _ hg1)) ⟨?_,.inr ⟨g,cap,_,rfl,Nat.zero_le _,hg2,by omega,h2,?_,?_⟩⟩
 ·simp only [List.length_append,List.length_take,List.length_drop,hlen,hoz];omega
 ·rw [List.size_toArray,List.length_append,List.length_append,List.length_take,List.length_drop,hml,hC1l,hzc,hoz,hcz];omega
 ·rw [List.toList_toArray,List.append_assoc,List.take_append_of_le_length (by rw [List.length_take,hC1l,hoz]; omega),List.take_take,Nat.min_self,hC1,hoz];rw [List.take_append_of_le_length (by simp only [List.length_append,List.length_take,List.length_drop,hlen,hlc]; omega),List.take_of_length_le (by simp only [List.length_append,List.length_take,List.length_drop,hlen,hlc]; omega)];congr 1;rw [← h4,List.take_take,Nat.min_eq_left hiz]
end
section
open Go
set_option maxRecDepth 100000
set_option maxHeartbeats 1000000
def GM:Spec:={ Ts:=[ty_I],Rs:=[.dat .bool],pre:=fun _=>True,F:=fun _=>false }
def xe:Prop :=
  ∀ (x:Int),ak .i64 x→True→decide (x≠x)=false∧True
theorem Du:xe:=by
 unfold xe;intro x _ _;simp
theorem Hk:GM.ok Tryz.prog 161:=aF (ann:=cw) aq Tryz.func161 (by kernel_rfl) Du
def Hs (l:List Int) (x:Int):Int:=((l.filter fun y=>decide (y<x)).length:Int)
theorem LN {l:List Int} {x:Int} {lo:Nat} (hlo:lo≤l.length) (h1:∀ j:Nat,j<lo→l.getD j 0<x) (h2:∀ j:Nat,lo≤j→j<l.length→x≤l.getD j 0):Hs l x=lo:=by
 unfold Hs
 have e:l.filter (fun y=>decide (y<x))=l.take lo:=by
  have e1:l=l.take lo++l.drop lo:=(List.take_append_drop lo l).symm
  have e2:(l.take lo).filter (fun y=>decide (y<x))=l.take lo:=by
   rw [List.filter_eq_self];intro y hy;obtain ⟨j,hj,rfl⟩:=List.mem_iff_getElem.1 hy;have hj2:j<lo∧j<l.length:=by simp at hj; omega
   have:=h1 j hj2.1;rw [List.getD_eq_getElem?_getD,List.getElem?_eq_getElem hj2.2] at this;simpa using this
  have e3:(l.drop lo).filter (fun y=>decide (y<x))=[]:=by
   rw [List.filter_eq_nil_iff];intro y hy;obtain ⟨j,hj,rfl⟩:=List.mem_iff_getElem.1 hy;have hj2:lo+j<l.length:=by simp at hj; omega
   have:=h2 (lo+j) (by omega) hj2;rw [List.getD_eq_getElem?_getD,List.getElem?_eq_getElem hj2] at this;simp at this ⊢;omega
  conv=>lhs; rw [e1]
  rw [List.filter_append,e2,e3,List.append_nil]
 rw [e,List.length_take,Nat.min_eq_left hlo]
theorem LO {l:List Int} {x:Int} {lo:Nat} (hs:l.Pairwise (·≤·)) (h1:∀ j:Nat,j<lo→l.getD j 0<x) (h2:∀ j:Nat,lo≤j→j<l.length→x≤l.getD j 0):cP l x=(decide (lo<l.length)&&decide (l.getD lo 0=x)):=by
 by_cases h:lo<l.length∧l.getD lo 0=x
 ·rw [decide_eq_true h.1,decide_eq_true h.2];refine cG.2 ?_;rw [← h.2,List.getD_eq_getElem?_getD,List.getElem?_eq_getElem h.1];simp
 ·have e:(decide (lo<l.length)&&decide (l.getD lo 0=x))=false:=by
   by_cases h3:lo<l.length
   ·by_cases h4:l.getD lo 0=x
    ·exact absurd ⟨h3,h4⟩ h
    ·rw [decide_eq_false h4,Bool.and_false]
   ·rw [decide_eq_false h3,Bool.false_and]
  rw [e];cases hx:cP l x
  ·rfl
  ·exfalso;obtain ⟨j,hj,e2⟩:=List.mem_iff_getElem.1 (cG.1 hx);have ej:l.getD j 0=x:=by rw [List.getD_eq_getElem?_getD,List.getElem?_eq_getElem hj]; simpa using e2
   rcases Nat.lt_or_ge j lo with hlt | hge
   ·have:=h1 j hlt; omega
   ·have hlo:lo<l.length:=by omega
    have h5:=h2 lo (Nat.le_refl _) hlo
    have h6:l.getD lo 0≤l.getD j 0:=by
     rcases Nat.lt_or_ge lo j with h7 | h7
     ·have:=List.pairwise_iff_getElem.1 hs lo j hlo hj h7;rw [List.getD_eq_getElem?_getD,List.getElem?_eq_getElem hlo,List.getD_eq_getElem?_getD,List.getElem?_eq_getElem hj];simpa using this
     ·have:j=lo:=by omega
      subst this;exact Int.le_refl _
    exact h ⟨hlo,by omega⟩
theorem qH {l:List Int} (hs:l.Pairwise (·≤·)) {i j:Nat} (h:i≤j) (hj:j<l.length):l.getD i 0≤l.getD j 0:=by
 rcases Nat.lt_or_ge i j with h7 | h7
 ·have:=List.pairwise_iff_getElem.1 hs i j (by omega) hj h7;rw [List.getD_eq_getElem?_getD,List.getElem?_eq_getElem (show i<l.length by omega),List.getD_eq_getElem?_getD,List.getElem?_eq_getElem hj];simpa using this
 ·have:j=i:=by omega
  subst this;exact Int.le_refl _
end
section
open Go
abbrev cz:Ty:=.pair ty_I ty_I
abbrev bk:=Int×Int
def jw (x:bk):Bool:=decide (x.1<0)||decide (255<x.1)||decide (x.2<1)||decide (1000000<x.2)
def cJ:Int→List bk→Int
 | _,[]=>0
 | q,x::l=>if jw x=true then 4 else if x.1≤q then 3 else cJ x.1 l
def bR (p:List bk):Int:=if 16<p.length then 2 else cJ (-1) p
def ahead (p:List bk) (i:Int):Int:=if 0<i then (p.getD (i - 1).toNat (0,0)).1 else -1
theorem tQ:∀ {p:List bk} {q:Int},cJ q p=0→p.Pairwise (fun x y=>x.1<y.1)∧(∀ x∈p,q<x.1∧0≤x.1∧x.1≤255∧1≤x.2∧x.2≤1000000)
 | [],_,_=>⟨List.Pairwise.nil,fun _ h=>by cases h⟩
 | x::l,q,h=>by
  unfold cJ at h;split at h
  ·omega
  ·rename_i hb;split at h
   ·omega
   ·rename_i hq;obtain ⟨h1,h2⟩:=tQ h;have hb:jw x=false:=by simpa using hb
    simp only [jw,Bool.or_eq_false_iff,decide_eq_false_iff_not] at hb;refine ⟨List.pairwise_cons.2 ⟨fun y hy=>(h2 y hy).1,h1⟩,fun y hy=>?_⟩;rcases List.mem_cons.1 hy with rfl | hy
    ·omega
    ·have:=h2 y hy; omega
theorem mo {p:List bk} (h:bR p=0):p.length≤16∧p.Pairwise (fun x y=>x.1<y.1)∧∀ x∈p,0≤x.1∧x.1≤255∧1≤x.2∧x.2≤1000000:=by
 unfold bR at h;split at h
 ·omega
 ·obtain ⟨h1,h2⟩:=tQ h;exact ⟨by omega,h1,fun x hx=>(h2 x hx).2⟩
theorem tS:∀ {l k:List bk},l.Pairwise (fun x y=>x.1<y.1)→k.Pairwise (fun x y=>x.1<y.1)→(∀ x,x∈l ↔ x∈k)→l=k
 | [],[],_,_,_=>rfl
 | [],y::k,_,_,h=>absurd ((h y).2 (by simp)) (by simp)
 | x::l,[],_,_,h=>absurd ((h x).1 (by simp)) (by simp)
 | x::l,y::k,hl,hk,h=>by
  obtain ⟨a1,a2⟩:=List.pairwise_cons.1 hl;obtain ⟨b1,b2⟩:=List.pairwise_cons.1 hk
  have e:x=y:=by
   have h1:=(h x).1 (by simp);have h2:=(h y).2 (by simp);rcases List.mem_cons.1 h1 with h1 | h1
   ·exact h1
   ·rcases List.mem_cons.1 h2 with h2 | h2
    ·exact h2.symm
    ·have:=b1 x h1;have:=a1 y h2;omega
  subst e;rw [tS a2 b2 (fun z=>⟨fun hz=>?_,fun hz=>?_⟩)]
  ·have:=(h z).1 (by simp [hz]);rcases List.mem_cons.1 this with e | h1
   ·subst e;exact absurd (a1 z hz) (by omega)
   ·exact h1
  ·have:=(h z).2 (by simp [hz]);rcases List.mem_cons.1 this with e | h1
   ·subst e;exact absurd (b1 z hz) (by omega)
   ·exact h1
theorem kq:∀ {m:List bk} {k v:Int},aT m k=some v→(k,v)∈m
 | [],_,_,h=>by cases h
 | x::m,k,v,h=>by
  unfold aT at h;split at h
  ·rename_i hx;injection h with h
   subst h hx;simp
  ·exact List.mem_cons_of_mem _ (kq h)
theorem ua:∀ {m:List bk} {x:bk},m.Pairwise (fun x y=>x.1<y.1)→x∈m→aT m x.1=some x.2
 | [],_,_,h=>by cases h
 | y::m,x,hp,h=>by
  obtain ⟨h1,h2⟩:=List.pairwise_cons.1 hp;unfold aT;rcases List.mem_cons.1 h with rfl | h
  ·rw [if_pos rfl]
  ·have:=h1 x h;rw [if_neg (by omega)];exact ua h2 h
theorem Ce:∀ (m:List bk) (k v j:Int),aT (eg m k v) j=if k=j then some v else aT m j
 | [],k,v,j=>by simp [eg,aT]
 | x::m,k,v,j=>by
  have ih:=Ce m k v j;unfold eg;split
  ·rename_i hx;subst hx;unfold aT;by_cases h:x.1=j <;> simp [h]
  ·rename_i hx;unfold aT;rw [ih];by_cases h:x.1=j
   ·rw [if_pos h,if_pos h,if_neg (by omega)]
   ·rw [if_neg h,if_neg h]
def bK (m:List bk) (k:Int):Int:=(aT m k).getD 0
def ru (m:List bk) (k:Int):List bk:=if 0<bK m k then [(k,bK m k)] else []
def kp (m:List bk) (n:Nat):List bk:=((List.range n).map Int.ofNat).flatMap (ru m)
def ij (m:List bk):List bk:=kp m 256
theorem nv (m:List bk) (n:Nat):kp m (n+1)=kp m n++ru m n:=by
 unfold kp;rw [List.range_succ,List.map_append,List.flatMap_append];simp
theorem pX {m:List bk} {x:bk}:∀ {n:Nat},x∈kp m n ↔ 0≤x.1∧x.1<n∧x.2=bK m x.1∧0<x.2
 | 0=>by
  simp only [kp,List.range_zero,List.map_nil,List.flatMap_nil,List.not_mem_nil,false_iff];intro h;have:=h.2.1;omega
 | n+1=>by
  rw [nv,List.mem_append,pX (n:=n)]
  have e:x∈ru m n ↔ x.1=n∧x.2=bK m n∧0<x.2:=by
   unfold ru;split
   ·rename_i h;rw [List.mem_singleton,Prod.ext_iff];constructor
    ·rintro ⟨h1,h2⟩; exact ⟨h1,h2,by rw [h2]; exact h⟩
    ·rintro ⟨h1,h2,_⟩; exact ⟨h1,h2⟩
   ·rename_i h;simp only [List.not_mem_nil,false_iff];rintro ⟨_,h2,h3⟩;omega
  rw [e];constructor
  ·rintro (⟨h1,h2,h3,h4⟩ | ⟨h1,h2,h3⟩)
   ·exact ⟨h1,by omega,h3,h4⟩
   ·exact ⟨by omega,by omega,by rw [h1]; exact h2,h3⟩
  ·rintro ⟨h1,h2,h3,h4⟩;by_cases h5:x.1<n
   ·exact .inl ⟨h1,h5,h3,h4⟩
   ·have h6:x.1=n:=by omega
    exact .inr ⟨h6,by rw [h6] at h3; exact h3,h4⟩
theorem tP (m:List bk):∀ n:Nat,(kp m n).Pairwise (fun x y=>x.1<y.1)
 | 0=>List.Pairwise.nil
 | n+1=>by
  rw [nv,List.pairwise_append];refine ⟨tP m n,?_,fun x hx y hy=>?_⟩
  ·unfold ru;split <;> simp
  ·have h1:=pX.1 hx;unfold ru at hy;split at hy
   ·rw [List.mem_singleton.1 hy];exact h1.2.1
   ·cases hy
theorem nw {m q:List bk} (hq:q.Pairwise (fun x y=>x.1<y.1)) (hr:∀ x∈q,0≤x.1∧x.1≤255∧1≤x.2) (h:∀ k,0≤k→k≤255→bK m k=bK q k):ij m=q:=by
 refine tS (tP m 256) hq fun x=>?_
 show x∈kp m 256 ↔ _;rw [pX];constructor
 ·rintro ⟨h1,h2,h3,h4⟩;have h5:=h x.1 h1 (by omega);rw [h5] at h3;unfold bK at h3;cases h6:aT q x.1 with
  | none=>rw [h6] at h3; simp at h3; omega
  | some v =>
   rw [h6] at h3;have h7:=kq h6;simp only [Option.getD_some] at h3;rw [← h3] at h7;exact h7
 ·intro hx;have h1:=hr x hx;have h2:=ua hq hx;refine ⟨h1.1,by omega,?_,by omega⟩;rw [h x.1 h1.1 h1.2.1];unfold bK;rw [h2];rfl
def jy (p:List bk) (k:Int):Int:=Hs (p.map Prod.fst) k
def lR (p:List bk) (k:Int):Bool:=cP (p.map Prod.fst) k
theorem un {p:List bk} (hp:p.Pairwise (fun x y=>x.1<y.1)) {k:Int}:lR p k=(aT p k).isSome:=by
 apply Bool.eq_iff_iff.2;unfold lR;rw [cG,List.mem_map];constructor
 ·rintro ⟨x,hx,rfl⟩;rw [ua hp hx];rfl
 ·intro h;obtain ⟨v,hv⟩:=Option.isSome_iff_exists.1 h;exact ⟨_,kq hv,rfl⟩
theorem Jt (p:List bk) (i:Nat):(p.map Prod.fst).getD i 0=(p.getD i (0,0)).1:=by
 rw [List.getD_eq_getElem?_getD,List.getD_eq_getElem?_getD,List.getElem?_map];cases p[i]? <;> rfl
theorem Hr {p:List bk} (hp:p.Pairwise (fun x y=>x.1<y.1)) (k:Int):∃ A B:List bk,(∀ x∈A,x.1<k)∧(∀ x∈B,k<x.1)∧jy p k=A.length ∧
  ((aT p k=none∧p=A++B)∨∃ v,aT p k=some v∧p=A++(k,v)::B):=by
 induction p with
 | nil=>exact ⟨[],[],(fun _ h=>by cases h),(fun _ h=>by cases h),rfl,.inl ⟨rfl,rfl⟩⟩
 | cons y p ih =>
  obtain ⟨h1,h2⟩:=List.pairwise_cons.1 hp
  have e:jy (y::p) k=(if y.1<k then 1 else 0)+jy p k:=by
   unfold jy Hs;rw [List.map_cons,List.filter_cons];by_cases hy:y.1<k
   ·rw [if_pos (decide_eq_true hy),if_pos hy,List.length_cons];omega
   ·rw [if_neg (by simpa using hy),if_neg hy];omega
  have e0:k≤y.1→jy p k=0:=fun hk=>by
   unfold jy Hs
   have:(p.map Prod.fst).filter (fun z=>decide (z<k))=[]:=by
    rw [List.filter_eq_nil_iff];intro z hz;obtain ⟨x,hx,rfl⟩:=List.mem_map.1 hz;have:=h1 x hx;simp;omega
   rw [this];rfl
  rcases Int.lt_trichotomy y.1 k with hy | hy | hy
  ·obtain ⟨A,B,a1,a2,a3,a4⟩:=ih h2;refine ⟨y::A,B,fun x hx=>?_,a2,?_,?_⟩
   ·rcases List.mem_cons.1 hx with rfl | hx
    ·exact hy
    ·exact a1 x hx
   ·rw [e,if_pos hy,a3,List.length_cons];omega
   ·unfold aT;rw [if_neg (by omega)];rcases a4 with ⟨b1,b2⟩ | ⟨v,b1,b2⟩
    ·exact .inl ⟨b1,by rw [b2]; rfl⟩
    ·exact .inr ⟨v,b1,by rw [b2]; rfl⟩
  ·refine ⟨[],p,(fun x hx=>by cases hx),(fun x hx=>by have:=h1 x hx; omega),?_,.inr ⟨y.2,?_,?_⟩⟩
   ·rw [e,if_neg (by omega),e0 (by omega)];rfl
   ·unfold aT;rw [if_pos hy]
   ·rw [← hy];rfl
  ·refine ⟨[],y::p,(fun x hx=>by cases hx),fun x hx=>?_,?_,.inl ⟨?_,rfl⟩⟩
   ·rcases List.mem_cons.1 hx with rfl | hx
    ·exact hy
    ·have:=h1 x hx; omega
   ·rw [e,if_neg (by omega),e0 (by omega)];rfl
   ·cases h:aT (y::p) k with
    | none=>rfl
    | some v =>
     have:=kq h;rcases List.mem_cons.1 this with h3 | h3
     ·rw [← h3] at hy; simp at hy
     ·have:=h1 _ h3; simp at this; omega
theorem xv {m:List bk} {k:Int} (h:∀ x∈m,x.1≠k):aT m k=none:=by
 cases hm:aT m k with
 | none=>rfl
 | some v=>exact absurd rfl (h _ (kq hm))
theorem t8 (k:Int):∀ (m l:List bk),aT (m++l) k=match aT m k with | some v=>some v | none=>aT l k
 | [],_=>rfl
 | x::m,l=>by
  have ih:=t8 k m l;simp only [List.cons_append,aT];split
  ·rfl
  ·exact ih
theorem oY {A B:List bk} {k v:Int} (hA:∀ x∈A,x.1<k) (j:Int):bK (A++(k,v)::B) j=if k=j then v else bK (A++B) j:=by
 unfold bK;rw [t8,t8];by_cases h:k=j
 ·subst h;rw [xv (fun x hx=>by have:=hA x hx; omega),if_pos rfl];simp [aT]
 ·rw [if_neg h];simp only [aT];rw [if_neg h]
theorem Jj {A B:List bk} {k:Int} (hA:∀ x∈A,x.1<k) (hB:∀ x∈B,k<x.1):bK (A++B) k=0:=by
 unfold bK;rw [xv (fun x hx=>?_)]
 ·rfl
 ·rcases List.mem_append.1 hx with hx | hx
  ·have:=hA x hx; omega
  ·have:=hB x hx; omega
theorem ue (m:List bk) (k v j:Int):bK (eg m k v) j=if k=j then v else bK m j:=by
 unfold bK;rw [Ce];split <;> rfl
def cR (m p:List bk):List bk:=p.foldl (fun m x=>eg m x.1 x.2) m
theorem Cd:∀ {m:List bk} {k v:Int},(∀ x∈m,x.1≠k)→eg m k v=m++[(k,v)]
 | [],_,_,_=>rfl
 | x::m,k,v,h=>by
  unfold eg;rw [if_neg (h x (by simp)),Cd (fun y hy=>h y (by simp [hy]))];rfl
theorem tN:∀ {p m:List bk},(m++p).Pairwise (fun x y=>x.1<y.1)→cR m p=m++p
 | [],m,_=>by simp [cR]
 | x::p,m,h=>by
  have h1:=List.pairwise_append.1 h;have e:cR m (x::p)=cR (eg m x.1 x.2) p:=rfl;rw [e,Cd (fun y hy=>by have:=h1.2.2 y hy x (by simp); omega)];have e2:m++x::p=(m++[(x.1,x.2)])++p:=by simp
  rw [e2] at h ⊢;exact tN h
theorem rq {p:List bk} (h:p.Pairwise (fun x y=>x.1<y.1)):cR [] p=p:=tN (m:=[]) h
end
section
open Go Go.RowKit Go.Lib
set_option maxHeartbeats 4000000 in
set_option maxRecDepth 100000 in
theorem yZ:C3 Tryz.prog 102 24 2:=by
 intro w W1 W2 g n c i vb m vc tA tB kA kB hi hm hroom hc63 hvb hsa hsb hkB hfa hfe hcp1 hcp2
 have hov:∀ o lb cb,(callFunc 142 #[.slice (some ⟨vb,0,none⟩) m vc,.slice (some ⟨g,o,none⟩) lb cb]).run Tryz.prog w=.ok (.value (.bool false)) w:=fun o lb cb=>by
  rw [run_callFunc_extern Tryz.func142 (by kernel_rfl) (by kernel_rfl) (by kernel_rfl) (e:=Extern.SlicesOverlaps.overlaps #[24,24] #[4]) (by kernel_rfl),
   Lib.run_overlaps_apart w 24 4 133 (by kernel_rfl) 2 (fun _=>by kernel_rfl) ⟨vb,0,none⟩ ⟨g,o,none⟩ m vc lb cb hvb tA tB kA kB hsa hsb hkB hfa hfe]
  rfl
 have hz1:¬ ((m:Int)=0):=by omega
 have hz2:¬ ((i:Int)=(n:Int)):=by omega
 have mixed:Tryz.prog.follows .mixedOrders=true:=by kernel_rfl
 have hw1:IntKind.i64.wrap ((i:Int)+(m:Int))=(i:Int)+(m:Int):=by rw [IntKind.wrap_i64]; omega
 have hb1:(0:Int)≤(i:Int)+(m:Int):=by omega
 have hin:i≤n:=by omega
 have htn:((i:Int)+(m:Int)).toNat=i+m:=by omega
 have hb2:¬ (c=i+m):=by omega
 have hb3:(i:Int)≤(n:Int)+(m:Int):=by omega
 have hb4:¬ (c=i):=by omega
 go_enter Tryz.func102,Tryz.ntmps102
 go_wp2_with (simp only [hov])
 go_region_law_o (refine step_copy_runI rfl _ _ 24 24 rfl (.slice (some ⟨g,(i+m) * 2,none⟩) (n+m - (i+m)) (c - (i+m))) (.slice (some ⟨g,i * 2,none⟩) (n+m - i) (c - i)) (by simp [Act.eval,Act.put]) (by simp [Act.eval,Act.put]) (hcp1 _ _ _ _ _ (by omega) rfl) ?_)
 go_wp2_with (at_builtin; refine wpList_copy_runI _ rfl _ _ 24 24 rfl _ _ rfl rfl (hcp2 _ _ _ (by omega)) ?_)
 go_ret
 exact ⟨rfl,rfl⟩
set_option maxHeartbeats 4000000 in
set_option maxRecDepth 100000 in
theorem Cm:FV Tryz.prog 102 24 3 2:=by
 intro w W0 W1 W2 g N n c i vb m vc G hi hm hn hroom hG h63 hG63 hrz hcp1 hcp2;have hz1:¬ ((m:Int)=0):=by omega
 have hz2:¬ ((i:Int)=(n:Int)):=by omega
 have hz3:(c:Int)<(n:Int)+(m:Int):=by omega
 have mixed:Tryz.prog.follows .mixedOrders=true:=by kernel_rfl
 have hGi:¬ (G=i):=by omega
 have hGim:¬ (G=i+m):=by omega
 have hci:¬ (c=i):=by omega
 have hw1:IntKind.i64.wrap ((i:Int)+(m:Int))=(i:Int)+(m:Int):=by rw [IntKind.wrap_i64]; omega
 have hb1:(0:Int)≤(i:Int)+(m:Int):=by omega
 have hin:i≤n:=by omega
 have htn:((i:Int)+(m:Int)).toNat=i+m:=by omega
 have hb3:(i:Int)≤(n:Int):=by omega
 go_enter Tryz.func102,Tryz.ntmps102
 go_wp2_with (first
  | (at_builtin; refine Lib.wpList_append_run _ rfl _ _ _ _ rfl _ _ rfl rfl _ _ (hrz _) ?_)
  | (at_builtin; refine wpList_copy_runI _ rfl _ _ 24 24 rfl _ _ rfl rfl (hcp1 _ _ _ rfl) ?_))
 go_region_law_o (refine step_copy_runI rfl _ _ 24 24 rfl (.slice (some ⟨N,(i+m) * 2,none⟩) (n+m - (i+m)) (G - (i+m))) (.slice (some ⟨g,i * 2,none⟩) (n - i) (c - i)) (by simp [Act.eval,Act.put]) (by simp [Act.eval,Act.put]) (hcp2 _ _ _ _ _ (by omega) rfl) ?_)
 go_wp2
 go_ret
 exact ⟨rfl,rfl⟩
set_option maxHeartbeats 4000000 in
set_option maxRecDepth 100000 in
theorem EK:Ki Tryz.prog 102 24:=by
 intro w W A n c vb m vc v' hm hnc hnil hsome hr;have mixed:Tryz.prog.follows .mixedOrders=true:=by kernel_rfl
 have hz1:¬ ((m:Int)=0):=by omega
 cases A with
 | none =>
  obtain ⟨rfl,rfl⟩:=hnil rfl
  go_enter Tryz.func102,Tryz.ntmps102
  go_wp2_with (at_builtin; refine Lib.wpList_append_run _ rfl _ _ _ _ rfl _ _ rfl rfl _ _ hr ?_)
  go_ret
  exact ⟨rfl,rfl⟩
 | some ad =>
  obtain ⟨ab,ao,asp⟩:=ad;obtain ⟨e1,e2⟩:=hsome _ rfl;simp only at e1 e2;subst e1 e2
  go_enter Tryz.func102,Tryz.ntmps102
  go_wp2_with (at_builtin; refine Lib.wpList_append_run _ rfl _ _ _ _ rfl _ _ rfl rfl _ _ hr ?_)
  all_goals (go_ret; exact ⟨rfl,rfl⟩)
def GN:RowFn:=gg 133 cz
theorem Hl:GN.ok Tryz.prog 102:=KU (P:=Tryz.prog) (S:=24) (E:=133) (I:=3) (by kernel_rfl) (by kernel_rfl) (by kernel_rfl) yZ Cm EK
set_option maxHeartbeats 4000000 in
set_option maxRecDepth 100000 in
theorem Al:FW Tryz.prog 103 24 2:=by
 intro w W1 W2 g n c i j hij hj hn hc63 hap hcl;have mixed:Tryz.prog.follows .mixedOrders=true:=by kernel_rfl
 have hz1:¬ ((i:Int)=(j:Int)):=by omega
 have hb1:i≤j:=by omega
 have hb2:j≤c:=by omega
 have hb3:i≤c:=by omega
 have hb4:i≤n:=by omega
 have hb5:¬ (c=i+(n - j)):=by omega
 have hb6:i+(n - j)≤n:=by omega
 have e1:n - (i+(n - j))=j - i:=by omega
 have hcl':=fun ty d4=>hcl ty d4
 simp only [← e1] at hcl';by_cases hcj:c=j
 ·subst hcj;have hnj:n=c:=by omega
  subst hnj;simp only [Nat.sub_self,Nat.add_zero] at hcl' ⊢
  go_enter Tryz.func103,Tryz.ntmps103
  go_wp2
  go_region_law_o (refine lc rfl _ _ 24 24 rfl (.slice (some ⟨g,0,none⟩) i n) (.slice (some ⟨g,0,none⟩) (n - n) (n - n)) (by simp [Act.eval,Act.put]) (by simp [Act.eval,Act.put]) (hap _ _ _ (.inl trivial)) ?_)
  go_wp2_with (at_builtin; refine kc _ rfl _ _ rfl _ rfl _ _ (hcl' _ _) ?_)
  go_ret
  exact ⟨rfl,rfl⟩
 ·go_enter Tryz.func103,Tryz.ntmps103
  go_wp2
  go_region_law_o (refine lc rfl _ _ 24 24 rfl (.slice (some ⟨g,0,none⟩) i c) (.slice (some ⟨g,j * 2,none⟩) (n - j) (c - j)) (by simp [Act.eval,Act.put]) (by simp [Act.eval,Act.put]) (hap _ _ _ (.inr rfl)) ?_)
  go_wp2_with (at_builtin; refine kc _ rfl _ _ rfl _ rfl _ _ (hcl' _ _) ?_)
  go_ret
  exact ⟨rfl,rfl⟩
def GQ:RowFn:=gh 133 cz
theorem Ho:GQ.ok Tryz.prog 103:=K2 (P:=Tryz.prog) (S:=24) (E:=133) (by kernel_rfl) (by kernel_rfl) (fun i z hi hz u hu=>I0 (by kernel_rfl) hi hz u hu) Al
end
section
open Go
set_option maxRecDepth 100000
set_option maxHeartbeats 1000000
theorem uX {p:List bk} {i:Int} (h0:0≤i) (h:i<p.length):cJ (ahead p i) (p.drop i.toNat)=if jw (p.getD i.toNat (0,0))=true then 4 else if (p.getD i.toNat (0,0)).1≤ahead p i then 3 else cJ (ahead p (i+1)) (p.drop (i+1).toNat):=by
 rw [aW ((0,0):bk) h0 h]
 have e:ahead p (i+1)=(p.getD i.toNat (0,0)).1:=by
  unfold ahead;rw [if_pos (by omega),show (i+1 - 1)=i by omega]
 rw [e];rfl
def A3:Spec:={ Ts:=[ty_I],Rs:=[.dat .bool],pre:=fun _=>True,F:=fun (v:Int)=>decide (0≤v)&&decide (v<256) }
def qZ:Prop :=
  ∀ (x:Int),ak .i64 x→True→(decide (0≤x)&&decide (x<256))=(decide (0≤x)&&decide (x<256))∧True
theorem ye:qZ:=by
 unfold qZ;intro v _ _;simp
theorem rA:A3.ok Tryz.prog 122:=aF (ann:=cw) aq Tryz.func122 (by kernel_rfl) ye
def rW:Nat→Option LoopGen
 | 4=>some { rd:=[.dat 8 (.arr cz)],A:=fun (p:List bk)=>{ cs:=[.dat 10 ty_I],inv:=fun (i:Int)=>0≤i∧i≤p.length∧cJ (ahead p i) (p.drop i.toNat)=cJ (-1) p,mu:=fun (i:Int)=>(p.length - i).toNat } }
 | _=>none
def A4:Spec:={ Ts:=[.arr cz],Rs:=[.dat ty_I],pre:=fun _=>True,F:=fun (p:List bk)=>bR p }
def rb:Prop :=
  ∀ (x:List (Int×Int)),(x.length * (8+8)≤aA∧∀ (x_1:Int×Int),x_1∈x→ak .i64 x_1.1∧ak .i64 x_1.2)→True→(decide (16<(↑x.length:Int))=true→2=bR x∧True)∧(decide (16<(↑x.length:Int))=false→((0:Int)≤0∧0≤(↑x.length:Int)∧cJ (ahead x 0) (List.drop (Int.toNat 0) x)=cJ (-1) x)∧∀ (x_1:Int),0≤x_1∧x_1≤(↑x.length:Int)∧cJ (ahead x x_1) (List.drop x_1.toNat x)=cJ (-1) x→(decide (x_1<(↑x.length:Int))=true→0≤x_1∧x_1<(↑x.length:Int)∧True∧((!(decide (0≤(x.getD x_1.toNat (0,0)).1)&&decide ((x.getD x_1.toNat (0,0)).1<256))||decide ((x.getD x_1.toNat (0,0)).2<1)||decide (1000000<(x.getD x_1.toNat (0,0)).2))=true→4=bR x∧True)∧((!(decide (0≤(x.getD x_1.toNat (0,0)).1)&&decide ((x.getD x_1.toNat (0,0)).1<256))||decide ((x.getD x_1.toNat (0,0)).2<1)||decide (1000000<(x.getD x_1.toNat (0,0)).2))=false→(decide (0<x_1)=true→ak .i64 (x_1 - 1))∧(decide (0<x_1)=true→0≤x_1 - 1)∧(decide (0<x_1)=true→x_1 - 1<(↑x.length:Int))∧((decide (0<x_1)&&decide ((x.getD x_1.toNat (0,0)).1≤(x.getD (x_1 - 1).toNat (0,0)).1))=true→3=bR x∧True)∧((decide (0<x_1)&&decide ((x.getD x_1.toNat (0,0)).1≤(x.getD (x_1 - 1).toNat (0,0)).1))=false→ak .i64 (x_1+1)∧(0≤x_1+1∧x_1+1≤(↑x.length:Int)∧cJ (ahead x (x_1+1)) (List.drop (x_1+1).toNat x)=cJ (-1) x)∧((↑x.length:Int) - (x_1+1)).toNat<((↑x.length:Int) - x_1).toNat)))∧(decide (x_1<(↑x.length:Int))=false→0=bR x∧True))
theorem yf:rb:=by
 unfold rb;intro p ⟨hb,_⟩ _;unfold aA at hb;have hF:bR p=if 16<p.length then 2 else cJ (-1) p:=rfl
 refine ⟨fun h=>?_,fun h=>?_⟩
 ·rw [hF,if_pos (by have:=of_decide_eq_true h; omega)];exact ⟨rfl,trivial⟩
 have hl:¬ 16<p.length:=by have:=of_decide_eq_false h; omega
 rw [hF,if_neg hl];refine ⟨⟨by omega,by omega,rfl⟩,fun i ⟨i0,i1,i2⟩=>⟨fun hlt=>?_,fun hge=>?_⟩⟩
 ·have hlt:=of_decide_eq_true hlt;rw [uX i0 hlt] at i2;have hp:0<i→ahead p i=(p.getD (i - 1).toNat (0,0)).1:=fun h=>if_pos h
  have hn:¬ 0<i→ahead p i=-1:=fun h=>if_neg h
  generalize p.getD i.toNat (0,0)=x at *;generalize p.getD (i - 1).toNat (0,0)=y at *;generalize ahead p i=q at *
  have hbad:(!(decide (0≤x.1)&&decide (x.1<256))||decide (x.2<1)||decide (1000000<x.2))=jw x:=by
   unfold jw
   grind
  rw [hbad];refine ⟨i0,hlt,trivial,fun hc=>?_,fun hc=>⟨fun _=>by simp only [ak]; omega,fun h=>by have:=of_decide_eq_true h; omega,fun _=>by omega,fun h2=>?_,fun h2=>⟨by simp only [ak]; omega,⟨by omega,by omega,?_⟩,by omega⟩⟩⟩
  ·rw [if_pos hc] at i2;exact ⟨i2,trivial⟩
  ·rw [if_neg (by rw [hc]; simp)] at i2;simp only [Bool.and_eq_true,decide_eq_true_eq] at h2;rw [if_pos (by rw [hp h2.1]; exact h2.2)] at i2;exact ⟨i2,trivial⟩
  ·rw [if_neg (by rw [hc]; simp)] at i2
   have hx:0≤x.1:=by
    simp only [jw,Bool.or_eq_false_iff,decide_eq_false_iff_not] at hc;omega
   rw [if_neg] at i2
   ·exact i2
   ·intro h3;by_cases h4:0<i
    ·rw [hp h4] at h3;have:(decide (0<i)&&decide (x.1≤y.1))=true:=by simp [h4,h3]
     rw [this] at h2;cases h2
    ·rw [hn h4] at h3;omega
 ·rw [bt (of_decide_eq_false hge)] at i2;exact ⟨i2,trivial⟩
theorem rB:A4.ok Tryz.prog 82:=aF (ann:=rW) (ae rA aq) Tryz.func82 (by kernel_rfl) yf
def yR:Spec:={ Ts:=[.arr cz],Rs:=[.dat ty_I],pre:=fun _=>True,F:=fun (p:List bk)=>bR p }
def oJ:Prop :=
  ∀ (x:List (Int×Int)),(x.length * (8+8)≤aA∧∀ (x_1:Int×Int),x_1∈x→ak .i64 x_1.1∧ak .i64 x_1.2)→True→(decide (16<(↑x.length:Int))=true→2=bR x∧True)∧(decide (16<(↑x.length:Int))=false→((0:Int)≤0∧0≤(↑x.length:Int)∧cJ (ahead x 0) (List.drop (Int.toNat 0) x)=cJ (-1) x)∧∀ (x_1:Int),0≤x_1∧x_1≤(↑x.length:Int)∧cJ (ahead x x_1) (List.drop x_1.toNat x)=cJ (-1) x→(decide (x_1<(↑x.length:Int))=true→0≤x_1∧x_1<(↑x.length:Int)∧((decide ((x.getD x_1.toNat (0,0)).1<0)||decide (255<(x.getD x_1.toNat (0,0)).1)||decide ((x.getD x_1.toNat (0,0)).2<1)||decide (1000000<(x.getD x_1.toNat (0,0)).2))=true→4=bR x∧True)∧((decide ((x.getD x_1.toNat (0,0)).1<0)||decide (255<(x.getD x_1.toNat (0,0)).1)||decide ((x.getD x_1.toNat (0,0)).2<1)||decide (1000000<(x.getD x_1.toNat (0,0)).2))=false→(decide (0<x_1)=true→ak .i64 (x_1 - 1))∧(decide (0<x_1)=true→0≤x_1 - 1)∧(decide (0<x_1)=true→x_1 - 1<(↑x.length:Int))∧((decide (0<x_1)&&decide ((x.getD x_1.toNat (0,0)).1≤(x.getD (x_1 - 1).toNat (0,0)).1))=true→3=bR x∧True)∧((decide (0<x_1)&&decide ((x.getD x_1.toNat (0,0)).1≤(x.getD (x_1 - 1).toNat (0,0)).1))=false→ak .i64 (x_1+1)∧(0≤x_1+1∧x_1+1≤(↑x.length:Int)∧cJ (ahead x (x_1+1)) (List.drop (x_1+1).toNat x)=cJ (-1) x)∧((↑x.length:Int) - (x_1+1)).toNat<((↑x.length:Int) - x_1).toNat)))∧(decide (x_1<(↑x.length:Int))=false→0=bR x∧True))
theorem vq:oJ:=by
 unfold oJ;intro p ⟨hb,_⟩ _;unfold aA at hb;have hF:bR p=if 16<p.length then 2 else cJ (-1) p:=rfl
 refine ⟨fun h=>?_,fun h=>?_⟩
 ·rw [hF,if_pos (by have:=of_decide_eq_true h; omega)];exact ⟨rfl,trivial⟩
 have hl:¬ 16<p.length:=by have:=of_decide_eq_false h; omega
 rw [hF,if_neg hl];refine ⟨⟨by omega,by omega,rfl⟩,fun i ⟨i0,i1,i2⟩=>⟨fun hlt=>?_,fun hge=>?_⟩⟩
 ·have hlt:=of_decide_eq_true hlt;rw [uX i0 hlt] at i2;have hp:0<i→ahead p i=(p.getD (i - 1).toNat (0,0)).1:=fun h=>if_pos h
  have hn:¬ 0<i→ahead p i=-1:=fun h=>if_neg h
  generalize p.getD i.toNat (0,0)=x at *;generalize p.getD (i - 1).toNat (0,0)=y at *;generalize ahead p i=q at *
  have hbad:(decide (x.1<0)||decide (255<x.1)||decide (x.2<1)||decide (1000000<x.2))=jw x:=by
   unfold jw
   grind
  rw [hbad];refine ⟨i0,hlt,fun hc=>?_,fun hc=>⟨fun _=>by simp only [ak]; omega,fun h=>by have:=of_decide_eq_true h; omega,fun _=>by omega,fun h2=>?_,fun h2=>⟨by simp only [ak]; omega,⟨by omega,by omega,?_⟩,by omega⟩⟩⟩
  ·rw [if_pos hc] at i2;exact ⟨i2,trivial⟩
  ·rw [if_neg (by rw [hc]; simp)] at i2;simp only [Bool.and_eq_true,decide_eq_true_eq] at h2;rw [if_pos (by rw [hp h2.1]; exact h2.2)] at i2;exact ⟨i2,trivial⟩
  ·rw [if_neg (by rw [hc]; simp)] at i2
   have hx:0≤x.1:=by
    simp only [jw,Bool.or_eq_false_iff,decide_eq_false_iff_not] at hc;omega
   rw [if_neg] at i2
   ·exact i2
   ·intro h3;by_cases h4:0<i
    ·rw [hp h4] at h3;have:(decide (0<i)&&decide (x.1≤y.1))=true:=by simp [h4,h3]
     rw [this] at h2;cases h2
    ·rw [hn h4] at h3;omega
 ·rw [bt (of_decide_eq_false hge)] at i2;exact ⟨i2,trivial⟩
theorem zq:yR.ok Tryz.prog 46:=aF (ann:=rW) aq Tryz.func46 (by kernel_rfl) vq
def ka (x y:Int):Int:=if x<y then -1 else if y<x then 1 else 0
def KB:Spec:={ Ts:=[ty_I,ty_I],Rs:=[.dat ty_I],pre:=fun _=>True,F:=fun ((x,y):Int×Int)=>ka x y }
def Fo:Prop :=
  ∀ (x:Int×Int),ak .i64 x.1∧ak .i64 x.2→True→True∧True∧(false=true→(false=true→0=ka x.1 x.2∧True)∧(false=false→(-1)=ka x.1 x.2∧True))∧(false=false→(false=true→1=ka x.1 x.2∧True)∧(false=false→(decide (x.1<x.2)=true→(-1)=ka x.1 x.2∧True)∧(decide (x.1<x.2)=false→(decide (x.2<x.1)=true→1=ka x.1 x.2∧True)∧(decide (x.2<x.1)=false→0=ka x.1 x.2∧True))))
theorem Ib:Fo:=by
 unfold Fo;intro ⟨x,y⟩ _ _;simp only [ka]
 grind
theorem KP:KB.ok Tryz.prog 141:=aF (ann:=cw) (ae Hk aq) Tryz.func141 (by kernel_rfl) Ib
def IE:Spec:={ Ts:=[cz,ty_I],Rs:=[.dat ty_I],pre:=fun _=>True,F:=fun ((x,y):bk×Int)=>ka x.1 y }
def BN:Prop :=
  ∀ (x:(Int×Int)×Int),(ak .i64 x.1.1∧ak .i64 x.1.2)∧ak .i64 x.2→True→True∧ka x.1.1 x.2=ka x.1.1 x.2∧True
theorem Gh:BN:=by
 unfold BN;intro ⟨x,y⟩ _ _;exact ⟨trivial,rfl,trivial⟩
theorem Jf:IE.ok Tryz.prog 140:=aF (ann:=cw) (ae KP aq) Tryz.func140 (by kernel_rfl) Gh
theorem K5 (x y:Int):decide (ka x y<0)=decide (x<y):=by
 unfold ka
 grind
theorem K6 (x y:Int):decide (ka x y=0)=decide (x=y):=by
 unfold ka
 grind
def az (p:List bk) (k:Int):Int×Bool×Int:=if bR p≠0 then (0,false,bR p) else if (decide (0≤k)&&decide (k<256))=false then (0,false,4) else (jy p k,lR p k,0)
def Ld:Nat→Option LoopGen
 | 3000139=>some eM
 | 14000000003=>some { rd:=[.dat 0 (.arr cz),.dat 1 ty_I],A:=fun ((p,x):List bk×Int)=>{ cs:=[.dat 9 ty_I,.dat 10 ty_I],inv:=fun ((lo,hi):Int×Int)=>0≤lo∧lo≤hi∧hi≤p.length∧(∀ j:Nat,(j:Int)<lo→(p.map Prod.fst).getD j 0<x)∧(∀ j:Nat,hi≤j→j<p.length→x≤(p.map Prod.fst).getD j 0),mu:=fun ((lo,hi):Int×Int)=>(hi - lo).toNat } }
 | _=>none
def Kz:Spec:={ Ts:=[.arr cz,ty_I],Rs:=[.dat ty_I,.dat .bool,.dat ty_I],pre:=fun _=>True,F:=fun ((p,k):List bk×Int)=>az p k }
def Fm:Prop :=
  ∀ (x:List (Int×Int)×Int),(x.1.length * (8+8)≤aA∧∀ (x_1:Int×Int),x_1∈x.1→ak .i64 x_1.1∧ak .i64 x_1.2)∧ak .i64 x.2→True→True∧(decide (bR x.1=0)=true→True)∧((decide (bR x.1=0)&&!(decide (0≤x.2)&&decide (x.2<256)))=true→(decide ((4:Int)≠0)=true→0=(az x.1 x.2).1∧false=(az x.1 x.2).2.1∧4=(az x.1 x.2).2.2∧True)∧(decide ((4:Int)≠0)=false→∀ (_:Array Value),((0:Int)≤0∧0≤(↑x.1.length:Int)∧(↑x.1.length:Int)≤(↑x.1.length:Int)∧(∀ (j:Nat),(↑j:Int)<0→(List.map Prod.fst x.1).getD j 0<x.2)∧∀ (j:Nat),(↑x.1.length:Int)≤(↑j:Int)→j<x.1.length→x.2≤(List.map Prod.fst x.1).getD j 0)∧∀ (x_1:Int×Int),(0≤x_1.1∧x_1.1≤x_1.2∧x_1.2≤(↑x.1.length:Int)∧(∀ (j:Nat),(↑j:Int)<x_1.1→(List.map Prod.fst x.1).getD j 0<x.2)∧∀ (j:Nat),x_1.2≤(↑j:Int)→j<x.1.length→x.2≤(List.map Prod.fst x.1).getD j 0)→(decide (x_1.1<x_1.2)=true→ak .i64 (x_1.1+x_1.2)∧(0:Int)≤1∧1<(↑IntKind.u64.bits:Int)∧0≤IntKind.i64.wrap (IntKind.u64.wrap (x_1.1+x_1.2) / 2 ^ Int.toNat 1)∧IntKind.i64.wrap (IntKind.u64.wrap (x_1.1+x_1.2) / 2 ^ Int.toNat 1)<(↑x.1.length:Int)∧True∧(decide (ka (x.1.getD (IntKind.i64.wrap (IntKind.u64.wrap (x_1.1+x_1.2) / 2 ^ Int.toNat 1)).toNat (0,0)).1 x.2<0)=true→ak .i64 (IntKind.i64.wrap (IntKind.u64.wrap (x_1.1+x_1.2) / 2 ^ Int.toNat 1)+1)∧(0≤IntKind.i64.wrap (IntKind.u64.wrap (x_1.1+x_1.2) / 2 ^ Int.toNat 1)+1∧IntKind.i64.wrap (IntKind.u64.wrap (x_1.1+x_1.2) / 2 ^ Int.toNat 1)+1≤x_1.2∧x_1.2≤(↑x.1.length:Int)∧(∀ (j:Nat),(↑j:Int)<IntKind.i64.wrap (IntKind.u64.wrap (x_1.1+x_1.2) / 2 ^ Int.toNat 1)+1→(List.map Prod.fst x.1).getD j 0<x.2)∧∀ (j:Nat),x_1.2≤(↑j:Int)→j<x.1.length→x.2≤(List.map Prod.fst x.1).getD j 0)∧(x_1.2 - (IntKind.i64.wrap (IntKind.u64.wrap (x_1.1+x_1.2) / 2 ^ Int.toNat 1)+1)).toNat<(x_1.2 - x_1.1).toNat)∧(decide (ka (x.1.getD (IntKind.i64.wrap (IntKind.u64.wrap (x_1.1+x_1.2) / 2 ^ Int.toNat 1)).toNat (0,0)).1 x.2<0)=false→(0≤x_1.1∧x_1.1≤IntKind.i64.wrap (IntKind.u64.wrap (x_1.1+x_1.2) / 2 ^ Int.toNat 1)∧IntKind.i64.wrap (IntKind.u64.wrap (x_1.1+x_1.2) / 2 ^ Int.toNat 1)≤(↑x.1.length:Int)∧(∀ (j:Nat),(↑j:Int)<x_1.1→(List.map Prod.fst x.1).getD j 0<x.2)∧∀ (j:Nat),IntKind.i64.wrap (IntKind.u64.wrap (x_1.1+x_1.2) / 2 ^ Int.toNat 1)≤(↑j:Int)→j<x.1.length→x.2≤(List.map Prod.fst x.1).getD j 0)∧(IntKind.i64.wrap (IntKind.u64.wrap (x_1.1+x_1.2) / 2 ^ Int.toNat 1) - x_1.1).toNat<(x_1.2 - x_1.1).toNat))∧(decide (x_1.1<x_1.2)=false→(decide (x_1.1<(↑x.1.length:Int))=true→0≤x_1.1)∧(decide (x_1.1<(↑x.1.length:Int))=true→x_1.1<(↑x.1.length:Int))∧(decide (x_1.1<(↑x.1.length:Int))=true→True)∧x_1.1=(az x.1 x.2).1∧(decide (x_1.1<(↑x.1.length:Int))&&decide (ka (x.1.getD x_1.1.toNat (0,0)).1 x.2=0))=(az x.1 x.2).2.1∧0=(az x.1 x.2).2.2∧True)))∧((decide (bR x.1=0)&&!(decide (0≤x.2)&&decide (x.2<256)))=false→(decide (bR x.1≠0)=true→0=(az x.1 x.2).1∧false=(az x.1 x.2).2.1∧bR x.1=(az x.1 x.2).2.2∧True)∧(decide (bR x.1≠0)=false→∀ (_:Array Value),((0:Int)≤0∧0≤(↑x.1.length:Int)∧(↑x.1.length:Int)≤(↑x.1.length:Int)∧(∀ (j:Nat),(↑j:Int)<0→(List.map Prod.fst x.1).getD j 0<x.2)∧∀ (j:Nat),(↑x.1.length:Int)≤(↑j:Int)→j<x.1.length→x.2≤(List.map Prod.fst x.1).getD j 0)∧∀ (x_1:Int×Int),(0≤x_1.1∧x_1.1≤x_1.2∧x_1.2≤(↑x.1.length:Int)∧(∀ (j:Nat),(↑j:Int)<x_1.1→(List.map Prod.fst x.1).getD j 0<x.2)∧∀ (j:Nat),x_1.2≤(↑j:Int)→j<x.1.length→x.2≤(List.map Prod.fst x.1).getD j 0)→(decide (x_1.1<x_1.2)=true→ak .i64 (x_1.1+x_1.2)∧(0:Int)≤1∧1<(↑IntKind.u64.bits:Int)∧0≤IntKind.i64.wrap (IntKind.u64.wrap (x_1.1+x_1.2) / 2 ^ Int.toNat 1)∧IntKind.i64.wrap (IntKind.u64.wrap (x_1.1+x_1.2) / 2 ^ Int.toNat 1)<(↑x.1.length:Int)∧True∧(decide (ka (x.1.getD (IntKind.i64.wrap (IntKind.u64.wrap (x_1.1+x_1.2) / 2 ^ Int.toNat 1)).toNat (0,0)).1 x.2<0)=true→ak .i64 (IntKind.i64.wrap (IntKind.u64.wrap (x_1.1+x_1.2) / 2 ^ Int.toNat 1)+1)∧(0≤IntKind.i64.wrap (IntKind.u64.wrap (x_1.1+x_1.2) / 2 ^ Int.toNat 1)+1∧IntKind.i64.wrap (IntKind.u64.wrap (x_1.1+x_1.2) / 2 ^ Int.toNat 1)+1≤x_1.2∧x_1.2≤(↑x.1.length:Int)∧(∀ (j:Nat),(↑j:Int)<IntKind.i64.wrap (IntKind.u64.wrap (x_1.1+x_1.2) / 2 ^ Int.toNat 1)+1→(List.map Prod.fst x.1).getD j 0<x.2)∧∀ (j:Nat),x_1.2≤(↑j:Int)→j<x.1.length→x.2≤(List.map Prod.fst x.1).getD j 0)∧(x_1.2 - (IntKind.i64.wrap (IntKind.u64.wrap (x_1.1+x_1.2) / 2 ^ Int.toNat 1)+1)).toNat<(x_1.2 - x_1.1).toNat)∧(decide (ka (x.1.getD (IntKind.i64.wrap (IntKind.u64.wrap (x_1.1+x_1.2) / 2 ^ Int.toNat 1)).toNat (0,0)).1 x.2<0)=false→(0≤x_1.1∧x_1.1≤IntKind.i64.wrap (IntKind.u64.wrap (x_1.1+x_1.2) / 2 ^ Int.toNat 1)∧IntKind.i64.wrap (IntKind.u64.wrap (x_1.1+x_1.2) / 2 ^ Int.toNat 1)≤(↑x.1.length:Int)∧(∀ (j:Nat),(↑j:Int)<x_1.1→(List.map Prod.fst x.1).getD j 0<x.2)∧∀ (j:Nat),IntKind.i64.wrap (IntKind.u64.wrap (x_1.1+x_1.2) / 2 ^ Int.toNat 1)≤(↑j:Int)→j<x.1.length→x.2≤(List.map Prod.fst x.1).getD j 0)∧(IntKind.i64.wrap (IntKind.u64.wrap (x_1.1+x_1.2) / 2 ^ Int.toNat 1) - x_1.1).toNat<(x_1.2 - x_1.1).toNat))∧(decide (x_1.1<x_1.2)=false→(decide (x_1.1<(↑x.1.length:Int))=true→0≤x_1.1)∧(decide (x_1.1<(↑x.1.length:Int))=true→x_1.1<(↑x.1.length:Int))∧(decide (x_1.1<(↑x.1.length:Int))=true→True)∧x_1.1=(az x.1 x.2).1∧(decide (x_1.1<(↑x.1.length:Int))&&decide (ka (x.1.getD x_1.1.toNat (0,0)).1 x.2=0))=(az x.1 x.2).2.1∧0=(az x.1 x.2).2.2∧True)))
theorem H9:Fm:=by
 unfold Fm;intro ⟨p,k⟩ ⟨⟨hb,_⟩,hk⟩ _;unfold aA at hb;simp only at hb hk ⊢;have hF:az p k=if bR p≠0 then (0,false,bR p) else if (decide (0≤k)&&decide (k<256))=false then (0,false,4) else (jy p k,lR p k,0):=rfl
 rw [hF];refine ⟨trivial,fun _=>trivial,fun h=>⟨fun _=>?_,fun h4=>absurd h4 (by decide)⟩,fun h=>⟨fun h1=>?_,fun h1 tm=>?_⟩⟩
 ·simp only [Bool.and_eq_true,decide_eq_true_eq,Bool.not_eq_true'] at h;rw [if_neg (by omega),if_pos h.2];refine ⟨?_,?_,?_,trivial⟩ <;> first | trivial | rfl
 ·rw [if_pos (of_decide_eq_true h1)];refine ⟨?_,?_,?_,trivial⟩ <;> first | trivial | rfl
 have h0:bR p=0:=by simpa using of_decide_eq_false h1
 have hth:(decide (0≤k)&&decide (k<256))=true:=by
  rw [decide_eq_true h0,Bool.true_and,Bool.not_eq_false'] at h;exact h
 rw [if_neg (by omega),if_neg (by rw [hth]; simp)];obtain ⟨_,hp,_⟩:=mo h0;have hs:(p.map Prod.fst).Pairwise (·≤·):=List.pairwise_map.2 (hp.imp fun h=>Int.le_of_lt h);have hll:(p.map Prod.fst).length=p.length:=List.length_map _;simp only [K5,K6,← Jt];obtain ⟨l,hl⟩:∃ l,l=p.map Prod.fst:=⟨_,rfl⟩;have hlo:jy p k=Hs l k:=by rw [hl]; rfl
 have hha:lR p k=cP l k:=by rw [hl]; rfl
 rw [hlo,hha];rw [← hl] at hs hll ⊢;rw [← hll] at hb ⊢;refine ⟨⟨by omega,by omega,by omega,fun j hj=>by omega,fun j h2 h3=>by omega⟩,fun ⟨lo,hi⟩ ⟨q1,q2,q3,q4,q5⟩=>⟨fun hlt=>?_,fun hge=>?_⟩⟩
 ·simp only at q1 q2 q3 q4 q5 hlt ⊢;have hlt:=of_decide_eq_true hlt
  have hm:IntKind.i64.wrap (IntKind.u64.wrap (lo+hi) / 2 ^ Int.toNat 1)=(lo+hi) / 2:=by
   rw [fm (by omega) (by omega),show (2:Int) ^ Int.toNat 1=2 from rfl,je (by omega) (by omega)]
  simp only [hm];have hm1:lo≤(lo+hi) / 2∧(lo+hi) / 2<hi:=by omega
  generalize (lo+hi) / 2=m at *;simp only [ak];refine ⟨by omega,by omega,by decide,by omega,by omega,trivial,fun hc=>⟨by omega,⟨by omega,by omega,by omega,fun j hj=>?_,q5⟩,by omega⟩,fun hc=>⟨⟨by omega,by omega,by omega,q4,fun j h1 h2=>?_⟩,by omega⟩⟩
  ·have hc:=of_decide_eq_true hc;have:=qH hs (i:=j) (j:=m.toNat) (by omega) (by omega);omega
  ·have hc:=of_decide_eq_false hc;have:=qH hs (i:=m.toNat) (j:=j) (by omega) (by omega);omega
 ·simp only at q1 q2 q3 q4 q5 hge ⊢;have hge:=of_decide_eq_false hge;have he:hi=lo:=by omega
  subst he;obtain ⟨n,rfl⟩:∃ n:Nat,hi=n:=⟨hi.toNat,by omega⟩;have h1:∀ j:Nat,j<n→l.getD j 0<k:=fun j hj=>q4 j (by omega)
  have h2:∀ j:Nat,n≤j→j<l.length→k≤l.getD j 0:=fun j h1 h2=>q5 j (by omega) h2
  rw [LN (by omega) h1 h2,LO hs h1 h2];refine ⟨fun _=>by omega,fun h=>of_decide_eq_true h,fun _=>trivial,by first | trivial | rfl,?_,by first | trivial | rfl,trivial⟩;simp
theorem Fz:Kz.ok Tryz.prog 101:=aF (ann:=Ld) (ae rB (ae rA (ae Jf aq))) Tryz.func101 (by kernel_rfl) H9
theorem JC {p:List bk} {k:Int} (h:(az p k).2.2=0):bR p=0∧0≤k∧k≤255∧az p k=(jy p k,lR p k,0):=by
 unfold az at h ⊢;split at h
 ·rename_i h1; exact absurd h h1
 ·rename_i h1;split at h
  ·cases h
  ·rename_i h2;rw [if_neg h1,if_neg h2];have h2:(decide (0≤k)&&decide (k<256))=true:=by simpa using h2
   simp only [Bool.and_eq_true,decide_eq_true_eq] at h2;exact ⟨by omega,h2.1,by omega,rfl⟩
theorem nH {p:List bk} {k:Int} (h:(az p k).2.2=0):∃ A B:List bk,az p k=((A.length:Int),lR p k,0)∧jy p k=A.length∧p.length≤16∧(∀ x∈A,x.1<k)∧(∀ x∈B,k<x.1) ∧
  ((lR p k=false∧bK p k=0∧p=A++B)∨(lR p k=true∧1≤bK p k∧bK p k≤1000000∧p=A++(k,bK p k)::B)):=by
 obtain ⟨h1,h2,h3,h4⟩:=JC h;obtain ⟨h5,h6,h7⟩:=mo h1;obtain ⟨A,B,a1,a2,a3,a4⟩:=Hr h6 k;refine ⟨A,B,by rw [h4,a3],a3,h5,a1,a2,?_⟩;rcases a4 with ⟨b1,b2⟩ | ⟨v,b1,b2⟩
 ·refine .inl ⟨?_,?_,b2⟩
  ·rw [un h6,b1]; rfl
  ·unfold bK; rw [b1]; rfl
 ·have hm:bK p k=v:=by unfold bK; rw [b1]; rfl
  have hv:=h7 (k,v) (by rw [b2]; simp);refine .inr ⟨?_,?_,?_,by rw [hm]; exact b2⟩
  ·rw [un h6,b1]; rfl
  ·rw [hm]; exact hv.2.2.1
  ·rw [hm]; exact hv.2.2.2
theorem qg {A B:List bk} {x:bk}:(A++x::B).getD ((A.length:Int)).toNat (0,0)=x:=by simp
theorem ta {A B:List bk} {x:bk} (y:bk):(A++x::B).set ((A.length:Int)).toNat y=A++y::B:=by simp
theorem Ey {A B:List bk} (x:bk):iT (A++B) [x] (A.length:Int)=A++x::B:=by simp [iT]
theorem EP {A B:List bk} {x:bk}:CI (A++x::B) (A.length:Int) ((A.length:Int)+1)=A++B:=by
 unfold CI;rw [show ((A.length:Int)+1).toNat=A.length+1 by omega];simp
def yW:Spec:={ Ts:=[.arr cz],Rs:=[.own 133 cz],pre:=fun _=>True,F:=fun (x:List bk)=>x }
def oP:Prop :=
  ∀ (x:List (Int×Int)),(x.length * (8+8)≤aA∧∀ (x_1:Int×Int),x_1∈x→ak .i64 x_1.1∧ak .i64 x_1.2)→True→(x=([]:List (Int×Int))→([]:List (Int×Int))=x∧True)∧(True→(0+x.length) * (8+8)≤aA∧([]:List (Int×Int))++x=x∧True)
theorem vz:oP:=by
 unfold oP;intro x ⟨hb,_⟩ _;simp [hb]
theorem b8:yW.ok Tryz.prog 87:=aF (ann:=cw) aq Tryz.func87 (by kernel_rfl) vz
def ie (p:List bk) (k:Int):List bk×Int×Int :=
 if (az p k).2.2≠0 then ([],0,(az p k).2.2) else if bK p k=1000000∨(lR p k=false∧p.length=16) then ([],0,7)
 else ((if lR p k=true then p.set (jy p k).toNat (k,bK p k+1) else iT p [(k,1)] (jy p k)),bK p k+1,0)
def Lv:Spec:={ Ts:=[.arr cz,ty_I],Rs:=[.own 133 cz,.dat ty_I,.dat ty_I],pre:=fun _=>True,F:=fun ((p,k):List bk×Int)=>ie p k }
def IR:Prop :=
  ∀ (x:List (Int×Int)×Int),(x.1.length * (8+8)≤aA∧∀ (x_1:Int×Int),x_1∈x.1→ak .i64 x_1.1∧ak .i64 x_1.2)∧ak .i64 x.2→True→True∧(decide ((az x.1 x.2).2.2≠0)=true→([]:List (Int×Int))=(ie x.1 x.2).1∧0=(ie x.1 x.2).2.1∧(az x.1 x.2).2.2=(ie x.1 x.2).2.2∧True)∧(decide ((az x.1 x.2).2.2≠0)=false→((az x.1 x.2).2.1=true→0≤(az x.1 x.2).1)∧((az x.1 x.2).2.1=true→(az x.1 x.2).1<(↑x.1.length:Int))∧(((az x.1 x.2).2.1&&decide ((x.1.getD (az x.1 x.2).1.toNat (0,0)).2=1000000)||!(az x.1 x.2).2.1&&decide ((↑x.1.length:Int)=16))=true→([]:List (Int×Int))=(ie x.1 x.2).1∧0=(ie x.1 x.2).2.1∧7=(ie x.1 x.2).2.2∧True)∧(((az x.1 x.2).2.1&&decide ((x.1.getD (az x.1 x.2).1.toNat (0,0)).2=1000000)||!(az x.1 x.2).2.1&&decide ((↑x.1.length:Int)=16))=false→True∧((!(az x.1 x.2).2.1)=true→(0<[(x.2,0)].length∧0≤(az x.1 x.2).1∧(az x.1 x.2).1≤(↑x.1.length:Int)∧(x.1.length+[(x.2,0)].length) * (8+8)≤aA)∧0≤(az x.1 x.2).1∧(az x.1 x.2).1<(↑(iT x.1 [(x.2,0)] (az x.1 x.2).1).length:Int)∧(az x.1 x.2).1.toNat<(iT x.1 [(x.2,0)] (az x.1 x.2).1).length∧ak .i64 (((iT x.1 [(x.2,0)] (az x.1 x.2).1).getD (az x.1 x.2).1.toNat (0,0)).2+1)∧0≤(az x.1 x.2).1∧(az x.1 x.2).1<(↑(iT x.1 [(x.2,0)] (az x.1 x.2).1).length:Int)∧(az x.1 x.2).1.toNat<(iT x.1 [(x.2,0)] (az x.1 x.2).1).length∧0≤(az x.1 x.2).1∧(az x.1 x.2).1<(↑((iT x.1 [(x.2,0)] (az x.1 x.2).1).set (az x.1 x.2).1.toNat (((iT x.1 [(x.2,0)] (az x.1 x.2).1).getD (az x.1 x.2).1.toNat (0,0)).1,((iT x.1 [(x.2,0)] (az x.1 x.2).1).getD (az x.1 x.2).1.toNat (0,0)).2+1)).length:Int)∧(az x.1 x.2).1.toNat<((iT x.1 [(x.2,0)] (az x.1 x.2).1).set (az x.1 x.2).1.toNat (((iT x.1 [(x.2,0)] (az x.1 x.2).1).getD (az x.1 x.2).1.toNat (0,0)).1,((iT x.1 [(x.2,0)] (az x.1 x.2).1).getD (az x.1 x.2).1.toNat (0,0)).2+1)).length∧(iT x.1 [(x.2,0)] (az x.1 x.2).1).set (az x.1 x.2).1.toNat (((iT x.1 [(x.2,0)] (az x.1 x.2).1).getD (az x.1 x.2).1.toNat (0,0)).1,((iT x.1 [(x.2,0)] (az x.1 x.2).1).getD (az x.1 x.2).1.toNat (0,0)).2+1)=(ie x.1 x.2).1∧(((iT x.1 [(x.2,0)] (az x.1 x.2).1).set (az x.1 x.2).1.toNat (((iT x.1 [(x.2,0)] (az x.1 x.2).1).getD (az x.1 x.2).1.toNat (0,0)).1,((iT x.1 [(x.2,0)] (az x.1 x.2).1).getD (az x.1 x.2).1.toNat (0,0)).2+1)).getD (az x.1 x.2).1.toNat (0,0)).2=(ie x.1 x.2).2.1∧0=(ie x.1 x.2).2.2∧True)∧((!(az x.1 x.2).2.1)=false→0≤(az x.1 x.2).1∧(az x.1 x.2).1<(↑x.1.length:Int)∧(az x.1 x.2).1.toNat<x.1.length∧ak .i64 ((x.1.getD (az x.1 x.2).1.toNat (0,0)).2+1)∧0≤(az x.1 x.2).1∧(az x.1 x.2).1<(↑x.1.length:Int)∧(az x.1 x.2).1.toNat<x.1.length∧0≤(az x.1 x.2).1∧(az x.1 x.2).1<(↑(x.1.set (az x.1 x.2).1.toNat ((x.1.getD (az x.1 x.2).1.toNat (0,0)).1,(x.1.getD (az x.1 x.2).1.toNat (0,0)).2+1)).length:Int)∧(az x.1 x.2).1.toNat<(x.1.set (az x.1 x.2).1.toNat ((x.1.getD (az x.1 x.2).1.toNat (0,0)).1,(x.1.getD (az x.1 x.2).1.toNat (0,0)).2+1)).length∧x.1.set (az x.1 x.2).1.toNat ((x.1.getD (az x.1 x.2).1.toNat (0,0)).1,(x.1.getD (az x.1 x.2).1.toNat (0,0)).2+1)=(ie x.1 x.2).1∧((x.1.set (az x.1 x.2).1.toNat ((x.1.getD (az x.1 x.2).1.toNat (0,0)).1,(x.1.getD (az x.1 x.2).1.toNat (0,0)).2+1)).getD (az x.1 x.2).1.toNat (0,0)).2=(ie x.1 x.2).2.1∧0=(ie x.1 x.2).2.2∧True)))
theorem Kn:IR:=by
 unfold IR;intro ⟨p,k⟩ ⟨⟨hb,_⟩,_⟩ _;unfold aA at hb;simp only at hb ⊢
 have hF:ie p k=if (az p k).2.2≠0 then ([],0,(az p k).2.2) else if bK p k=1000000∨(lR p k=false∧p.length=16) then ([],0,7)
  else ((if lR p k=true then p.set (jy p k).toNat (k,bK p k+1) else iT p [(k,1)] (jy p k)),bK p k+1,0):=rfl
 rw [hF];refine ⟨trivial,fun h=>?_,fun h=>?_⟩
 ·rw [if_pos (of_decide_eq_true h)];exact ⟨by first | trivial | rfl,by first | trivial | rfl,by first | trivial | rfl,trivial⟩
 have h0:(az p k).2.2=0:=by simpa using of_decide_eq_false h
 rw [if_neg (by omega)];obtain ⟨A,B,e,e2,hl,_,_,h1⟩:=nH h0;rw [e,e2];simp only;rcases h1 with ⟨h1,h2,h3⟩ | ⟨h1,h2,h2',h3⟩
 ·rw [h1,h2];subst h3;refine ⟨(fun h=>by cases h),(fun h=>by cases h),fun h=>?_,fun h=>⟨trivial,fun _=>?_,(fun h=>by cases h)⟩⟩
  ·have h:(A++B).length=16:=by
    have:(((A++B).length:Nat):Int)=16:=by simpa using h
    omega
   rw [if_pos (.inr ⟨rfl,h⟩)];exact ⟨by first | trivial | rfl,by first | trivial | rfl,by first | trivial | rfl,trivial⟩
  ·have h:¬ (A++B).length=16:=by
    intro h4;simp only [Bool.not_false,Bool.true_and,Bool.false_and,Bool.false_or,decide_eq_false_iff_not] at h;exact h (by omega)
   have hno:¬ ((0:Int)=1000000∨(false=false∧(A++B).length=16)):=by
    rintro (h4 | h4)
    ·omega
    ·exact h h4.2
   rw [if_neg hno,if_neg (by simp),Ey,Ey,qg,ta,qg];simp only [ak,List.length_append,List.length_cons,List.length_nil] at *;unfold aA;refine ⟨⟨by omega,by omega,by omega,by omega⟩,by omega,by omega,by omega,by omega,by omega,by omega,by omega,by omega,by omega,by omega,?_,?_,trivial,trivial⟩ <;> first | trivial | rfl
 ·rw [h1];generalize bK p k=v at *;subst h3;rw [qg];refine ⟨fun _=>by omega,fun _=>by simp; omega,fun h=>?_,fun h=>⟨trivial,(fun h=>by cases h),fun _=>?_⟩⟩
  ·have h:v=1000000:=by simpa using h
   rw [if_pos (.inl h)];exact ⟨by first | trivial | rfl,by first | trivial | rfl,by first | trivial | rfl,trivial⟩
  ·have h:v≠1000000:=by simpa using h
   have hno:¬ (v=1000000∨(true=false∧(A++(k,v)::B).length=16)):=by
    rintro (h4 | h4)
    ·exact h h4
    ·exact absurd h4.1 (by simp)
   rw [if_neg hno,if_pos rfl,ta,qg];simp only [ak,List.length_append,List.length_cons,List.length_nil] at *;refine ⟨by omega,by omega,by omega,by omega,by omega,by omega,by omega,by omega,by omega,by omega,?_,?_,trivial,trivial⟩ <;> first | trivial | rfl
theorem LL:Lv.ok Tryz.prog 62:=aF (ann:=cw) (ae Fz (ae b8 (kD Hl aq))) Tryz.func62 (by kernel_rfl) Kn
def dZ (p:List bk) (k:Int):List bk×Int×Int :=
 if (az p k).2.2≠0 then ([],0,(az p k).2.2) else if lR p k=false then ([],0,5)
 else ((if bK p k=1 then CI p (jy p k) (jy p k+1) else p.set (jy p k).toNat (k,bK p k - 1)),bK p k - 1,0)
def KA:Spec:={ Ts:=[.arr cz,ty_I],Rs:=[.own 133 cz,.dat ty_I,.dat ty_I],pre:=fun _=>True,F:=fun ((p,k):List bk×Int)=>dZ p k }
def Fn:Prop :=
  ∀ (x:List (Int×Int)×Int),(x.1.length * (8+8)≤aA∧∀ (x_1:Int×Int),x_1∈x.1→ak .i64 x_1.1∧ak .i64 x_1.2)∧ak .i64 x.2→True→True∧(decide ((az x.1 x.2).2.2≠0)=true→([]:List (Int×Int))=(dZ x.1 x.2).1∧0=(dZ x.1 x.2).2.1∧(az x.1 x.2).2.2=(dZ x.1 x.2).2.2∧True)∧(decide ((az x.1 x.2).2.2≠0)=false→((!(az x.1 x.2).2.1)=true→([]:List (Int×Int))=(dZ x.1 x.2).1∧0=(dZ x.1 x.2).2.1∧5=(dZ x.1 x.2).2.2∧True)∧((!(az x.1 x.2).2.1)=false→True∧0≤(az x.1 x.2).1∧(az x.1 x.2).1<(↑x.1.length:Int)∧(az x.1 x.2).1.toNat<x.1.length∧ak .i64 ((x.1.getD (az x.1 x.2).1.toNat (0,0)).2 - 1)∧0≤(az x.1 x.2).1∧(az x.1 x.2).1<(↑x.1.length:Int)∧(az x.1 x.2).1.toNat<x.1.length∧0≤(az x.1 x.2).1∧(az x.1 x.2).1<(↑(x.1.set (az x.1 x.2).1.toNat ((x.1.getD (az x.1 x.2).1.toNat (0,0)).1,(x.1.getD (az x.1 x.2).1.toNat (0,0)).2 - 1)).length:Int)∧(az x.1 x.2).1.toNat<(x.1.set (az x.1 x.2).1.toNat ((x.1.getD (az x.1 x.2).1.toNat (0,0)).1,(x.1.getD (az x.1 x.2).1.toNat (0,0)).2 - 1)).length∧(decide (((x.1.set (az x.1 x.2).1.toNat ((x.1.getD (az x.1 x.2).1.toNat (0,0)).1,(x.1.getD (az x.1 x.2).1.toNat (0,0)).2 - 1)).getD (az x.1 x.2).1.toNat (0,0)).2=0)=true→ak .i64 ((az x.1 x.2).1+1)∧(0≤(az x.1 x.2).1∧(az x.1 x.2).1<(az x.1 x.2).1+1∧(az x.1 x.2).1+1≤(↑(x.1.set (az x.1 x.2).1.toNat ((x.1.getD (az x.1 x.2).1.toNat (0,0)).1,(x.1.getD (az x.1 x.2).1.toNat (0,0)).2 - 1)).length:Int))∧CI (x.1.set (az x.1 x.2).1.toNat ((x.1.getD (az x.1 x.2).1.toNat (0,0)).1,(x.1.getD (az x.1 x.2).1.toNat (0,0)).2 - 1)) (az x.1 x.2).1 ((az x.1 x.2).1+1)=(dZ x.1 x.2).1∧((x.1.set (az x.1 x.2).1.toNat ((x.1.getD (az x.1 x.2).1.toNat (0,0)).1,(x.1.getD (az x.1 x.2).1.toNat (0,0)).2 - 1)).getD (az x.1 x.2).1.toNat (0,0)).2=(dZ x.1 x.2).2.1∧0=(dZ x.1 x.2).2.2∧True)∧(decide (((x.1.set (az x.1 x.2).1.toNat ((x.1.getD (az x.1 x.2).1.toNat (0,0)).1,(x.1.getD (az x.1 x.2).1.toNat (0,0)).2 - 1)).getD (az x.1 x.2).1.toNat (0,0)).2=0)=false→x.1.set (az x.1 x.2).1.toNat ((x.1.getD (az x.1 x.2).1.toNat (0,0)).1,(x.1.getD (az x.1 x.2).1.toNat (0,0)).2 - 1)=(dZ x.1 x.2).1∧((x.1.set (az x.1 x.2).1.toNat ((x.1.getD (az x.1 x.2).1.toNat (0,0)).1,(x.1.getD (az x.1 x.2).1.toNat (0,0)).2 - 1)).getD (az x.1 x.2).1.toNat (0,0)).2=(dZ x.1 x.2).2.1∧0=(dZ x.1 x.2).2.2∧True)))
theorem Ia:Fn:=by
 unfold Fn;intro ⟨p,k⟩ ⟨⟨hb,_⟩,_⟩ _;unfold aA at hb;simp only at hb ⊢
 have hF:dZ p k=if (az p k).2.2≠0 then ([],0,(az p k).2.2) else if lR p k=false then ([],0,5)
  else ((if bK p k=1 then CI p (jy p k) (jy p k+1) else p.set (jy p k).toNat (k,bK p k - 1)),bK p k - 1,0):=rfl
 rw [hF];refine ⟨trivial,fun h=>?_,fun h=>?_⟩
 ·rw [if_pos (of_decide_eq_true h)];exact ⟨by first | trivial | rfl,by first | trivial | rfl,by first | trivial | rfl,trivial⟩
 have h0:(az p k).2.2=0:=by simpa using of_decide_eq_false h
 rw [if_neg (by omega)];obtain ⟨A,B,e,e2,hl,_,_,h1⟩:=nH h0;rw [e,e2];simp only;rcases h1 with ⟨h1,h2,h3⟩ | ⟨h1,h2,h2',h3⟩
 ·rw [h1,if_pos rfl];exact ⟨fun _=>⟨by first | trivial | rfl,by first | trivial | rfl,by first | trivial | rfl,trivial⟩,fun h=>by cases h⟩
 ·rw [h1,if_neg (by simp)];generalize bK p k=v at *;subst h3;rw [qg,ta,qg,EP,EP];simp only [ak,List.length_append,List.length_cons,List.length_nil] at *;refine ⟨(fun h=>by cases h),fun _=>⟨trivial,by omega,by omega,by omega,by omega,by omega,by omega,by omega,by omega,by omega,by omega,fun h=>?_,fun h=>?_⟩⟩
  ·have h:v - 1=0:=of_decide_eq_true h;rw [if_pos (by omega)];exact ⟨by omega,⟨by omega,by omega,by omega⟩,by first | trivial | rfl,by first | trivial | rfl,by first | trivial | rfl,trivial⟩
  ·have h:¬ v - 1=0:=of_decide_eq_false h;rw [if_neg (by omega)];exact ⟨by first | trivial | rfl,by first | trivial | rfl,by first | trivial | rfl,trivial⟩
theorem KO:KA.ok Tryz.prog 63:=aF (ann:=cw) (ae Fz (ae b8 (kD Ho aq))) Tryz.func63 (by kernel_rfl) Ia
def HZ:Nat→Option LoopGen
 | 3=>some { rd:=[.dat 7 (.arr cz)],A:=fun (p:List bk)=>{ cs:=[.map 6 .i64 ty_I,.dat 9 ty_I],inv:=fun ((m,i):List (Int×Int)×Int)=>0≤i∧i≤p.length∧m=cR [] (p.take i.toNat),mu:=fun ((_,i):List (Int×Int)×Int)=>(p.length - i).toNat } }
 | _=>none
def GK:Spec:={ Ts:=[.arr cz],Rs:=[.map .i64 ty_I],pre:=fun _=>True,F:=fun (p:List bk)=>cR [] p }
def xc:Prop :=
  ∀ (x:List (Int×Int)),(x.length * (8+8)≤aA∧∀ (x_1:Int×Int),x_1∈x→ak .i64 x_1.1∧ak .i64 x_1.2)→True→((0:Int)≤0∧0≤(↑x.length:Int)∧([]:List (Int×Int))=cR ([]:List bk) (List.take (Int.toNat 0) x))∧∀ (x_1:List (Int×Int)×Int),0≤x_1.2∧x_1.2≤(↑x.length:Int)∧x_1.1=cR ([]:List bk) (List.take x_1.2.toNat x)→(decide (x_1.2<(↑x.length:Int))=true→0≤x_1.2∧x_1.2<(↑x.length:Int)∧ak .i64 (x_1.2+1)∧(0≤x_1.2+1∧x_1.2+1≤(↑x.length:Int)∧eg x_1.1 (x.getD x_1.2.toNat (0,0)).1 (x.getD x_1.2.toNat (0,0)).2=cR ([]:List bk) (List.take (x_1.2+1).toNat x))∧((↑x.length:Int) - (x_1.2+1)).toNat<((↑x.length:Int) - x_1.2).toNat)∧(decide (x_1.2<(↑x.length:Int))=false→x_1.1=cR ([]:List bk) x∧True)
theorem Ds:xc:=by
 unfold xc;intro p ⟨hb,_⟩ _;unfold aA at hb;refine ⟨⟨by omega,by omega,by first | trivial | rfl⟩,fun ⟨m,i⟩ ⟨i0,i1,i2⟩=>⟨fun hlt=>?_,fun hge=>?_⟩⟩
 ·simp only at i0 i1 i2 hlt ⊢;have hlt:=of_decide_eq_true hlt;have hs:=bo ((0,0):bk) i0 hlt;simp only [ak];refine ⟨i0,hlt,by omega,⟨by omega,by omega,?_⟩,by omega⟩;rw [hs,i2];unfold cR;rw [List.foldl_append];rfl
 ·simp only at i0 i1 i2 hge ⊢;rw [bF (of_decide_eq_false hge)] at i2;exact ⟨i2,trivial⟩
theorem Hi:GK.ok Tryz.prog 38:=aF (ann:=HZ) aq Tryz.func38 (by kernel_rfl) Ds
def E2:Nat→Option LoopGen
 | 3=>some { rd:=[.dat 0 (.map .i64 ty_I)],A:=fun (m:List (Int×Int))=>{ cs:=[.own 3 133 cz,.dat 5 ty_I],inv:=fun ((out,i):List bk×Int)=>0≤i∧i≤256∧out=kp m i.toNat∧out.length≤i.toNat,mu:=fun ((_,i):List bk×Int)=>(256 - i).toNat } }
 | _=>none
def DU:Spec:={ Ts:=[.map .i64 ty_I],Rs:=[.own 133 cz],pre:=fun _=>True,F:=fun (m:List (Int×Int))=>ij m }
def tD:Prop :=
  ∀ (x:List (Int×Int)),(∀ (x_1:Int×Int),x_1∈x→ak .i64 x_1.1∧ak .i64 x_1.2)→True→((0:Int)≤0∧(0:Int)≤256∧([]:List (Int×Int))=kp x (Int.toNat 0)∧0≤Int.toNat 0)∧∀ (x_1:List (Int×Int)×Int),0≤x_1.2∧x_1.2≤256∧x_1.1=kp x x_1.2.toNat∧x_1.1.length≤x_1.2.toNat→(decide (x_1.2<256)=true→(decide (0<(aT x x_1.2).getD 0)=true→(x_1.1.length+[(x_1.2,(aT x x_1.2).getD 0)].length) * (8+8)≤aA∧ak .i64 (x_1.2+1)∧(0≤x_1.2+1∧x_1.2+1≤256∧x_1.1++[(x_1.2,(aT x x_1.2).getD 0)]=kp x (x_1.2+1).toNat∧(x_1.1++[(x_1.2,(aT x x_1.2).getD 0)]).length≤(x_1.2+1).toNat)∧(256 - (x_1.2+1)).toNat<(256 - x_1.2).toNat)∧(decide (0<(aT x x_1.2).getD 0)=false→ak .i64 (x_1.2+1)∧(0≤x_1.2+1∧x_1.2+1≤256∧x_1.1=kp x (x_1.2+1).toNat∧x_1.1.length≤(x_1.2+1).toNat)∧(256 - (x_1.2+1)).toNat<(256 - x_1.2).toNat))∧(decide (x_1.2<256)=false→x_1.1=ij x∧True)
theorem Ax:tD:=by
 unfold tD;intro m hm _;refine ⟨⟨by omega,by omega,rfl,by simp⟩,fun ⟨out,i⟩ ⟨i0,i1,i2,i3⟩=>⟨fun hlt=>?_,fun hge=>?_⟩⟩
 ·simp only at i0 i1 i2 i3 hlt ⊢;have hlt:=of_decide_eq_true hlt;obtain ⟨n,rfl⟩:∃ n:Nat,i=n:=⟨i.toNat,by omega⟩;rw [show ((n:Int)+1).toNat=n+1 by omega,nv];simp only [Int.toNat_natCast] at i2 i3;have e:∀ b,(aT m (n:Int)).getD 0=b→bK m n=b:=fun b h=>h
  generalize (aT m (n:Int)).getD 0=v at *;have e:=e v rfl;simp only [ak];refine ⟨fun hc=>⟨by simp only [List.length_cons,List.length_nil]; unfold aA; omega,by omega,⟨by omega,by omega,?_,by simp; omega⟩,by omega⟩,fun hc=>⟨by omega,⟨by omega,by omega,?_,by omega⟩,by omega⟩⟩
  ·have hc:=of_decide_eq_true hc;unfold ru;rw [e,if_pos hc,i2]
  ·have hc:=of_decide_eq_false hc;unfold ru;rw [e,if_neg hc,List.append_nil,i2]
 ·simp only at i0 i1 i2 i3 hge ⊢;have hge:=of_decide_eq_false hge;have:i=256:=by omega
  subst this;exact ⟨i2,trivial⟩
theorem Ei:DU.ok Tryz.prog 39:=aF (ann:=E2) aq Tryz.func39 (by kernel_rfl) Ax
def CR:Nat→Option LoopGen
 | 4=>some { rd:=[.dat 0 (.arr cz),.dat 1 (.arr cz)],A:=fun ((a,b):List bk×List bk)=>{ cs:=[.dat 13 ty_I],inv:=fun (i:Int)=>a.length=b.length∧0≤i∧i≤a.length∧a.take i.toNat=b.take i.toNat,mu:=fun (i:Int)=>(a.length - i).toNat } }
 | _=>none
def AU:Spec:={ Ts:=[.arr cz,.arr cz],Rs:=[.dat .bool],pre:=fun _=>True,F:=fun (x:List bk×List bk)=>decide (x.1=x.2) }
theorem LG (a b:bk):(!(decide (a.1=b.1)&&decide (a.2=b.2)))=decide (a≠b):=by
 obtain ⟨a1,a2⟩:=a;obtain ⟨b1,b2⟩:=b;apply Bool.eq_iff_iff.2;simp only [Bool.not_eq_true',Bool.and_eq_false_iff,decide_eq_true_eq,decide_eq_false_iff_not,ne_eq,Prod.mk.injEq]
 grind
def qR:Prop :=
  ∀ (x:List (Int×Int)×List (Int×Int)),((x.1.length * (8+8)≤aA∧∀ (x_1:Int×Int),x_1∈x.1→ak .i64 x_1.1∧ak .i64 x_1.2)∧x.2.length * (8+8)≤aA∧∀ (x_1:Int×Int),x_1∈x.2→ak .i64 x_1.1∧ak .i64 x_1.2)→True→(decide ((↑x.1.length:Int)≠(↑x.2.length:Int))=true→false=decide (x.1=x.2)∧True)∧(decide ((↑x.1.length:Int)≠(↑x.2.length:Int))=false→(x.1.length=x.2.length∧(0:Int)≤0∧0≤(↑x.1.length:Int)∧List.take (Int.toNat 0) x.1=List.take (Int.toNat 0) x.2)∧∀ (x_1:Int),x.1.length=x.2.length∧0≤x_1∧x_1≤(↑x.1.length:Int)∧List.take x_1.toNat x.1=List.take x_1.toNat x.2→(decide (x_1<(↑x.1.length:Int))=true→0≤x_1∧x_1<(↑x.1.length:Int)∧0≤x_1∧x_1<(↑x.2.length:Int)∧((!(decide ((x.1.getD x_1.toNat (0,0)).1=(x.2.getD x_1.toNat (0,0)).1)&&decide ((x.1.getD x_1.toNat (0,0)).2=(x.2.getD x_1.toNat (0,0)).2)))=true→false=decide (x.1=x.2)∧True)∧((!(decide ((x.1.getD x_1.toNat (0,0)).1=(x.2.getD x_1.toNat (0,0)).1)&&decide ((x.1.getD x_1.toNat (0,0)).2=(x.2.getD x_1.toNat (0,0)).2)))=false→ak .i64 (x_1+1)∧(x.1.length=x.2.length∧0≤x_1+1∧x_1+1≤(↑x.1.length:Int)∧List.take (x_1+1).toNat x.1=List.take (x_1+1).toNat x.2)∧((↑x.1.length:Int) - (x_1+1)).toNat<((↑x.1.length:Int) - x_1).toNat))∧(decide (x_1<(↑x.1.length:Int))=false→true=decide (x.1=x.2)∧True))
theorem x6:qR:=by
 unfold qR;intro x hw _;refine ⟨fun h=>?_,fun h=>?_⟩
 ·have h:x.1.length≠x.2.length:=by have:=of_decide_eq_true h; omega
  have:x.1≠x.2:=fun e=>h (by rw [e])
  simp [this]
 have hl:x.1.length=x.2.length:=by have:=of_decide_eq_false h; omega
 refine ⟨⟨hl,by omega,by omega,by simp⟩,fun i ⟨_,h0,h1,ht⟩=>⟨fun hlt=>?_,fun hge=>?_⟩⟩
 ·have hlt:i<x.1.length:=by simpa using hlt
  rw [LG];refine ⟨h0,hlt,h0,by omega,fun hne=>?_,fun he=>?_⟩
  ·have hne:x.1.getD i.toNat (0,0)≠x.2.getD i.toNat (0,0):=by simpa using hne
   have:x.1≠x.2:=fun e=>hne (by rw [e])
   simp [this]
  ·have he:x.1.getD i.toNat (0,0)=x.2.getD i.toNat (0,0):=by simpa using he
   have hb:=hw.1.1;unfold aA at hb;refine ⟨by simp only [ak]; omega,⟨hl,by omega,by omega,?_⟩,by omega⟩;rw [show (i+1).toNat=i.toNat+1 by omega];exact mf hl (by omega) ht he
 ·have hge:¬ i<x.1.length:=by simpa using hge
  have hi:i.toNat=x.1.length:=by omega
  rw [hi,List.take_of_length_le (Nat.le_refl _),List.take_of_length_le (by omega)] at ht;simp [ht]
theorem BV:AU.ok Tryz.prog 52:=aF (ann:=CR) aq Tryz.func52 (by kernel_rfl) x6
theorem BS {p:List bk} {k:Int} (h0:bR p=0) (hk:0≤k) (hk2:k≤255):(az p k).2.2=0∧cR [] p=p∧0≤bK p k∧bK p k≤1000000 ∧
  (bK p k=1000000∨(bK p k=0∧p.length=16)→ie p k=([],0,7)) ∧
  (¬ (bK p k=1000000∨(bK p k=0∧p.length=16))→ie p k=(ij (eg p k (bK p k+1)),bK p k+1,0)) ∧
  (bK p k=0→dZ p k=([],0,5))∧(bK p k≠0→dZ p k=(ij (eg p k (bK p k - 1)),bK p k - 1,0)):=by
 have hF:az p k=(jy p k,lR p k,0):=by
  unfold az;rw [if_neg (by omega),if_neg (by simp; omega)]
 have hz:(az p k).2.2=0:=by rw [hF]
 obtain ⟨h5,h6,h7⟩:=mo h0;obtain ⟨A,B,e,e2,hl,hA,hB,h1⟩:=nH hz;refine ⟨hz,rq h6,?_⟩;unfold ie dZ;have hz':¬ ((az p k).2.2≠0):=by omega
 rw [if_neg hz',if_neg hz',e2];rcases h1 with ⟨h1,h2,h3⟩ | ⟨h1,h2,h2',h3⟩
 ·rw [h1,h2,if_pos rfl];have hAB:(A++B).Pairwise (fun x y=>x.1<y.1):=by rw [← h3]; exact h6
  have hab:=List.pairwise_append.1 hAB;refine ⟨by omega,by omega,fun h=>?_,fun h=>?_,fun _=>rfl,fun h=>absurd rfl h⟩
  ·rw [if_pos (h.imp id fun h=>⟨rfl,h.2⟩)]
  ·rw [if_neg (fun h4=>h (h4.imp id fun h4=>⟨rfl,h4.2⟩)),if_neg (by simp),h3,Ey]
   have:ij (eg (A++B) k (0+1))=A++(k,1)::B:=by
    refine nw ?_ (fun x hx=>?_) (fun j _ _=>?_)
    ·refine List.pairwise_append.2 ⟨hab.1,List.pairwise_cons.2 ⟨hB,hab.2.1⟩,fun x hx y hy=>?_⟩;rcases List.mem_cons.1 hy with rfl | hy
     ·exact hA x hx
     ·exact hab.2.2 x hx y hy
    ·rcases List.mem_append.1 hx with hx | hx
     ·have:=h7 x (by rw [h3]; simp [hx]); omega
     ·rcases List.mem_cons.1 hx with rfl | hx
      ·simp only; omega
      ·have:=h7 x (by rw [h3]; simp [hx]); omega
    ·rw [ue,oY hA];rfl
   rw [this]
 ·rw [h1,if_neg (show ¬ ((true:Bool)=false) by simp)];generalize hv:bK p k=v at *;have hAB:(A++(k,v)::B).Pairwise (fun x y=>x.1<y.1):=by rw [← h3]; exact h6
  have hab:=List.pairwise_append.1 hAB;have hcb:=List.pairwise_cons.1 hab.2.1
  have mid:∀ u,1≤u→ij (eg p k u)=A++(k,u)::B:=fun u hu=>by
   refine nw ?_ (fun x hx=>?_) (fun j _ _=>?_)
   ·refine List.pairwise_append.2 ⟨hab.1,List.pairwise_cons.2 ⟨hB,hcb.2⟩,fun x hx y hy=>?_⟩;rcases List.mem_cons.1 hy with rfl | hy
    ·exact hA x hx
    ·exact hab.2.2 x hx y (by simp [hy])
   ·rcases List.mem_append.1 hx with hx | hx
    ·have:=h7 x (by rw [h3]; simp [hx]); omega
    ·rcases List.mem_cons.1 hx with rfl | hx
     ·simp only; omega
     ·have:=h7 x (by rw [h3]; simp [hx]); omega
   ·rw [ue,h3,oY hA,oY hA];split <;> rfl
  refine ⟨by omega,by omega,fun h=>?_,fun h=>?_,fun h=>by omega,fun _=>?_⟩
  ·have h:v=1000000:=by rcases h with h | h <;> omega
   rw [if_pos (.inl h)]
  ·have hno:¬ (v=1000000∨(true=false∧p.length=16)):=by
    rintro (h4 | h4)
    ·exact h (.inl h4)
    ·exact absurd h4.1 (by simp)
   rw [if_neg hno,if_pos rfl,mid (v+1) (by omega),h3,ta]
  ·by_cases h:v=1
   ·rw [if_pos h,h3,EP,← h3]
    have:ij (eg p k (v - 1))=A++B:=by
     refine nw ?_ (fun x hx=>?_) (fun j _ _=>?_)
     ·exact List.pairwise_append.2 ⟨hab.1,hcb.2,fun x hx y hy=>hab.2.2 x hx y (by simp [hy])⟩
     ·rcases List.mem_append.1 hx with hx | hx
      ·have:=h7 x (by rw [h3]; simp [hx]); omega
      ·have:=h7 x (by rw [h3]; simp [hx]); omega
     ·rw [ue,h3,oY hA];split
      ·rename_i hj;subst hj;rw [Jj hA hB];omega
      ·rfl
    rw [this]
   ·rw [if_neg h,mid (v - 1) (by omega),h3,ta]
end
section
open Go
set_option maxRecDepth 100000
set_option maxHeartbeats 1000000
abbrev bC:Ty:=.pair ty_I (.pair .bool ty_I)
abbrev bW:=Int×Bool×Int
def DY:Spec:={ Ts:=[.arr bC,.fn bC .bool],Rs:=[.dat ty_I],pre:=fun ((l,g):List bW×(bW→Prop)×(bW→Bool))=>∀ s∈l,g.1 s,F:=fun ((l,g):List bW×(bW→Prop)×(bW→Bool))=>ai g.2 0 l }
def E4:Nat→Option LoopGen
 | 2=>some { rd:=[.dat 0 (.arr bC),.dat 1 (.fn bC .bool)],A:=fun ((l,g):List bW×(bW→Prop)×(bW→Bool))=>{ cs:=[.dat 8 ty_I],inv:=fun (i:Int)=>0≤i∧i≤l.length∧ai g.2 i (l.drop i.toNat)=ai g.2 0 l,mu:=fun (i:Int)=>(l.length - i).toNat } }
 | _=>none
def tH:Prop :=
  ∀ (x:List (Int×Bool×Int)×(Int×Bool×Int→Prop)×(Int×Bool×Int→Bool)),(x.1.length * (8+(8+8))≤aA∧∀ (x_1:Int×Bool×Int),x_1∈x.1→ak .i64 x_1.1∧True∧ak .i64 x_1.2.2)∧True→(∀ (s:bW),s∈x.1→x.2.1 s)→((0:Int)≤0∧0≤(↑x.1.length:Int)∧ai x.2.2 0 (List.drop (Int.toNat 0) x.1)=ai x.2.2 0 x.1)∧∀ (x_1:Int),0≤x_1∧x_1≤(↑x.1.length:Int)∧ai x.2.2 x_1 (List.drop x_1.toNat x.1)=ai x.2.2 0 x.1→(decide (x_1<(↑x.1.length:Int))=true→0≤x_1∧x_1<(↑x.1.length:Int)∧x.2.1 (x.1.getD x_1.toNat (0,false,0))∧(x.2.2 (x.1.getD x_1.toNat (0,false,0))=true→x_1=ai x.2.2 0 x.1∧True)∧(x.2.2 (x.1.getD x_1.toNat (0,false,0))=false→ak .i64 (x_1+1)∧(0≤x_1+1∧x_1+1≤(↑x.1.length:Int)∧ai x.2.2 (x_1+1) (List.drop (x_1+1).toNat x.1)=ai x.2.2 0 x.1)∧((↑x.1.length:Int) - (x_1+1)).toNat<((↑x.1.length:Int) - x_1).toNat))∧(decide (x_1<(↑x.1.length:Int))=false→(-1)=ai x.2.2 0 x.1∧True)
theorem AB:tH:=by
 unfold tH;intro ⟨l,g⟩ ⟨⟨hl,_⟩,_⟩ hp;unfold aA at *;refine ⟨⟨by omega,by omega,by simp⟩,fun i ⟨h0,h1,h2⟩=>⟨fun hlt=>?_,fun hge=>?_⟩⟩
 ·have hlt:i<(l.length:Int):=by simpa using hlt
  have e:=aW ((0,false,0):bW) h0 hlt;have hm:=hp _ (aI ((0,false,0):bW) h0 hlt);simp only at *;rw [e] at h2;simp only [ai] at h2;refine ⟨h0,hlt,hm,fun hc=>?_,fun hc=>?_⟩
  ·rw [if_pos hc] at h2;exact ⟨h2,trivial⟩
  ·rw [if_neg (by rw [hc]; simp)] at h2;exact ⟨by simp only [ak]; omega,⟨by omega,by omega,h2⟩,by omega⟩
 ·rw [bt (by simpa using hge)] at h2;exact ⟨h2,trivial⟩
theorem El:DY.ok Tryz.prog 110:=aF (ann:=E4) aq Tryz.func110 (by kernel_rfl) AB
def GO:Spec:={ Ts:=[.arr ty_I,.fn ty_I .bool],Rs:=[.dat ty_I],pre:=fun ((l,g):List Int×(Int→Prop)×(Int→Bool))=>∀ s∈l,g.1 s,F:=fun ((l,g):List Int×(Int→Prop)×(Int→Bool))=>ai g.2 0 l }
def H0:Nat→Option LoopGen
 | 2=>some { rd:=[.dat 0 (.arr ty_I),.dat 1 (.fn ty_I .bool)],A:=fun ((l,g):List Int×(Int→Prop)×(Int→Bool))=>{ cs:=[.dat 8 ty_I],inv:=fun (i:Int)=>0≤i∧i≤l.length∧ai g.2 i (l.drop i.toNat)=ai g.2 0 l,mu:=fun (i:Int)=>(l.length - i).toNat } }
 | _=>none
def xf:Prop :=
  ∀ (x:List Int×(Int→Prop)×(Int→Bool)),(x.1.length * 8≤aA∧∀ (x_1:Int),x_1∈x.1→ak .i64 x_1)∧True→(∀ (s:Int),s∈x.1→x.2.1 s)→((0:Int)≤0∧0≤(↑x.1.length:Int)∧ai x.2.2 0 (List.drop (Int.toNat 0) x.1)=ai x.2.2 0 x.1)∧∀ (x_1:Int),0≤x_1∧x_1≤(↑x.1.length:Int)∧ai x.2.2 x_1 (List.drop x_1.toNat x.1)=ai x.2.2 0 x.1→(decide (x_1<(↑x.1.length:Int))=true→0≤x_1∧x_1<(↑x.1.length:Int)∧x.2.1 (x.1.getD x_1.toNat 0)∧(x.2.2 (x.1.getD x_1.toNat 0)=true→x_1=ai x.2.2 0 x.1∧True)∧(x.2.2 (x.1.getD x_1.toNat 0)=false→ak .i64 (x_1+1)∧(0≤x_1+1∧x_1+1≤(↑x.1.length:Int)∧ai x.2.2 (x_1+1) (List.drop (x_1+1).toNat x.1)=ai x.2.2 0 x.1)∧((↑x.1.length:Int) - (x_1+1)).toNat<((↑x.1.length:Int) - x_1).toNat))∧(decide (x_1<(↑x.1.length:Int))=false→(-1)=ai x.2.2 0 x.1∧True)
theorem Dv:xf:=by
 unfold xf;intro ⟨l,g⟩ ⟨⟨hl,_⟩,_⟩ hp;unfold aA at *;refine ⟨⟨by omega,by omega,by simp⟩,fun i ⟨h0,h1,h2⟩=>⟨fun hlt=>?_,fun hge=>?_⟩⟩
 ·have hlt:i<(l.length:Int):=by simpa using hlt
  have e:=aW (0:Int) h0 hlt;have hm:=hp _ (aI (0:Int) h0 hlt);simp only at *;rw [e] at h2;simp only [ai] at h2;refine ⟨h0,hlt,hm,fun hc=>?_,fun hc=>?_⟩
  ·rw [if_pos hc] at h2;exact ⟨h2,trivial⟩
  ·rw [if_neg (by rw [hc]; simp)] at h2;exact ⟨by simp only [ak]; omega,⟨by omega,by omega,h2⟩,by omega⟩
 ·rw [bt (by simpa using hge)] at h2;exact ⟨h2,trivial⟩
theorem Hm:GO.ok Tryz.prog 148:=aF (ann:=H0) aq Tryz.func148 (by kernel_rfl) Dv
def GS:Spec:={ Ts:=[.arr ty_I,.fn ty_I .bool],Rs:=[.dat .bool],pre:=fun ((l,g):List Int×(Int→Prop)×(Int→Bool))=>∀ s∈l,g.1 s,F:=fun ((l,g):List Int×(Int→Prop)×(Int→Bool))=>l.any g.2 }
def xi:Prop :=
  ∀ (x:List Int×(Int→Prop)×(Int→Bool)),(x.1.length * 8≤aA∧∀ (x_1:Int),x_1∈x.1→ak .i64 x_1)∧True→(∀ (s:Int),s∈x.1→x.2.1 s)→(∀ (s:Int),s∈x.1→x.2.1 s)∧decide (0≤ai x.2.2 0 x.1)=x.1.any x.2.2∧True
theorem Dy:xi:=by
 unfold xi;intro ⟨l,g⟩ _ hp;exact ⟨hp,cW g.2 l 0 (by omega),trivial⟩
theorem Hq:GS.ok Tryz.prog 119:=aF (ann:=cw) (ae Hm aq) Tryz.func119 (by kernel_rfl) Dy
def vR:Spec:={ Ts:=[.arr bC],Rs:=[.own 82 bC],pre:=fun _=>True,F:=fun (x:List bW)=>x }
def mW:Prop :=
  ∀ (x:List (Int×Bool×Int)),(x.length * (8+(8+8))≤aA∧∀ (x_1:Int×Bool×Int),x_1∈x→ak .i64 x_1.1∧True∧ak .i64 x_1.2.2)→True→(x=([]:List (Int×Bool×Int))→([]:List (Int×Bool×Int))=x∧True)∧(True→(0+x.length) * (8+(8+8))≤aA∧([]:List (Int×Bool×Int))++x=x∧True)
theorem sN:mW:=by
 unfold mW;intro x ⟨hb,_⟩ _;simp [hb]
theorem bU:vR.ok Tryz.prog 88:=aF (ann:=cw) aq Tryz.func88 (by kernel_rfl) sN
def eH (v:Int):Bool:=decide (0≤v)&&decide (v<256)
def yU:Spec:={ Ts:=[ty_I],Rs:=[.dat .bool],pre:=fun _=>True,F:=eH }
def oM:Prop :=
  ∀ (x:Int),ak .i64 x→True→(decide (0≤x)&&decide (x<256))=eH x∧True
theorem vu:oM:=by
 unfold oM;intro v _ _;simp [eH]
theorem kM:yU.ok Tryz.prog 109:=aF (ann:=cw) aq Tryz.func109 (by kernel_rfl) vu
def A5:Spec:={ Ts:=[ty_I],Rs:=[.dat .bool],pre:=fun _=>True,F:=fun (v:Int)=>!eH v }
def rc:Prop :=
  ∀ (x:Int),ak .i64 x→True→True∧(!eH x)=!eH x∧True
theorem yg:rc:=by
 unfold rc;intro v _ _;simp
theorem B2:A5.ok Tryz.prog 138:=aF (ann:=cw) (ae kM aq) Tryz.func138 (by kernel_rfl) yg
def aM (s:bW):Bool:=!s.2.1&&decide (s.1<65535)
def Bg:Spec:={ Ts:=[bC],Rs:=[.dat .bool],pre:=fun _=>True,F:=aM }
def rp:Prop :=
  ∀ (x:Int×Bool×Int),ak .i64 x.1∧True∧ak .i64 x.2.2→True→(!x.2.1&&decide (x.1<65535))=aM x∧True
theorem yu:rp:=by
 unfold rp;intro s _ _;simp [aM]
theorem B9:Bg.ok Tryz.prog 111:=aF (ann:=cw) aq Tryz.func111 (by kernel_rfl) yu
def jG (s:bW):Int:=if s.1<0∨65535<s.1∨s.2.2<0∨255<s.2.2 then 4 else if (s.2.1=true∧s.1=0)∨(s.2.1=false∧s.2.2≠0) then 3 else 0
def bv:List bW→Int
 | []=>0
 | s::l=>if jG s≠0 then jG s else bv l
def aO (h:List bW):Int:=if 16<h.length then 2 else bv h
def nY:Spec:={ Ts:=[.arr bC],Rs:=[.dat ty_I],pre:=fun _=>True,F:=aO }
def pC:Nat→Option LoopGen
 | 4=>some { rd:=[.dat 8 (.arr bC)],A:=fun (h:List bW)=>{ cs:=[.dat 10 ty_I],inv:=fun (i:Int)=>0≤i∧i≤h.length∧h.length≤16∧bv (h.drop i.toNat)=bv h,mu:=fun (i:Int)=>(h.length - i).toNat } }
 | _=>none
def oO:Prop :=
  ∀ (x:List (Int×Bool×Int)),(x.length * (8+(8+8))≤aA∧∀ (x_1:Int×Bool×Int),x_1∈x→ak .i64 x_1.1∧True∧ak .i64 x_1.2.2)→True→(decide (16<(↑x.length:Int))=true→2=aO x∧True)∧(decide (16<(↑x.length:Int))=false→((0:Int)≤0∧0≤(↑x.length:Int)∧x.length≤16∧bv (List.drop (Int.toNat 0) x)=bv x)∧∀ (x_1:Int),0≤x_1∧x_1≤(↑x.length:Int)∧x.length≤16∧bv (List.drop x_1.toNat x)=bv x→(decide (x_1<(↑x.length:Int))=true→0≤x_1∧x_1<(↑x.length:Int)∧((decide ((x.getD x_1.toNat (0,false,0)).1<0)||decide (65535<(x.getD x_1.toNat (0,false,0)).1))=false→True)∧((decide ((x.getD x_1.toNat (0,false,0)).1<0)||decide (65535<(x.getD x_1.toNat (0,false,0)).1)||!eH (x.getD x_1.toNat (0,false,0)).2.2)=true→4=aO x∧True)∧((decide ((x.getD x_1.toNat (0,false,0)).1<0)||decide (65535<(x.getD x_1.toNat (0,false,0)).1)||!eH (x.getD x_1.toNat (0,false,0)).2.2)=false→(((x.getD x_1.toNat (0,false,0)).2.1&&decide ((x.getD x_1.toNat (0,false,0)).1=0)||!(x.getD x_1.toNat (0,false,0)).2.1&&decide ((x.getD x_1.toNat (0,false,0)).2.2≠0))=true→3=aO x∧True)∧(((x.getD x_1.toNat (0,false,0)).2.1&&decide ((x.getD x_1.toNat (0,false,0)).1=0)||!(x.getD x_1.toNat (0,false,0)).2.1&&decide ((x.getD x_1.toNat (0,false,0)).2.2≠0))=false→ak .i64 (x_1+1)∧(0≤x_1+1∧x_1+1≤(↑x.length:Int)∧x.length≤16∧bv (List.drop (x_1+1).toNat x)=bv x)∧((↑x.length:Int) - (x_1+1)).toNat<((↑x.length:Int) - x_1).toNat)))∧(decide (x_1<(↑x.length:Int))=false→0=aO x∧True))
theorem vw:oO:=by
 unfold oO;intro h ⟨hb,hw⟩ _;unfold aA at *;refine ⟨fun hl=>?_,fun hl=>⟨⟨by omega,by omega,by have:=of_decide_eq_false hl; omega,by simp⟩,fun i ⟨h0,h1,h2,h3⟩=>⟨fun hlt=>?_,fun hge=>?_⟩⟩⟩
 ·have:=of_decide_eq_true hl;unfold aO;rw [if_pos (by omega)];exact ⟨rfl,trivial⟩
 ·have hlt:i<(h.length:Int):=by simpa using hlt
  have e:=aW ((0,false,0):bW) h0 hlt;have hF:aO h=bv h:=by unfold aO; rw [if_neg (by omega)]
  rw [hF,← h3,e];simp only [bv,jG,eH,ak];generalize h.getD i.toNat (0,false,0)=s at *;obtain ⟨g,o,a⟩:=s;simp only;cases o <;> grind
 ·have hF:aO h=bv h:=by unfold aO; rw [if_neg (by omega)]
  rw [bt (by simpa using hge)] at h3;rw [hF,← h3];exact ⟨rfl,trivial⟩
theorem iQ:nY.ok Tryz.prog 83:=aF (ann:=pC) (ae kM aq) Tryz.func83 (by kernel_rfl) vw
def vO:Spec:=nY
def mT:Prop :=
  ∀ (x:List (Int×Bool×Int)),(x.length * (8+(8+8))≤aA∧∀ (x_1:Int×Bool×Int),x_1∈x→ak .i64 x_1.1∧True∧ak .i64 x_1.2.2)→True→(decide (16<(↑x.length:Int))=true→2=aO x∧True)∧(decide (16<(↑x.length:Int))=false→((0:Int)≤0∧0≤(↑x.length:Int)∧x.length≤16∧bv (List.drop (Int.toNat 0) x)=bv x)∧∀ (x_1:Int),0≤x_1∧x_1≤(↑x.length:Int)∧x.length≤16∧bv (List.drop x_1.toNat x)=bv x→(decide (x_1<(↑x.length:Int))=true→0≤x_1∧x_1<(↑x.length:Int)∧((decide ((x.getD x_1.toNat (0,false,0)).1<0)||decide (65535<(x.getD x_1.toNat (0,false,0)).1)||decide ((x.getD x_1.toNat (0,false,0)).2.2<0)||decide (255<(x.getD x_1.toNat (0,false,0)).2.2))=true→4=aO x∧True)∧((decide ((x.getD x_1.toNat (0,false,0)).1<0)||decide (65535<(x.getD x_1.toNat (0,false,0)).1)||decide ((x.getD x_1.toNat (0,false,0)).2.2<0)||decide (255<(x.getD x_1.toNat (0,false,0)).2.2))=false→(((x.getD x_1.toNat (0,false,0)).2.1&&decide ((x.getD x_1.toNat (0,false,0)).1=0)||!(x.getD x_1.toNat (0,false,0)).2.1&&decide ((x.getD x_1.toNat (0,false,0)).2.2≠0))=true→3=aO x∧True)∧(((x.getD x_1.toNat (0,false,0)).2.1&&decide ((x.getD x_1.toNat (0,false,0)).1=0)||!(x.getD x_1.toNat (0,false,0)).2.1&&decide ((x.getD x_1.toNat (0,false,0)).2.2≠0))=false→ak .i64 (x_1+1)∧(0≤x_1+1∧x_1+1≤(↑x.length:Int)∧x.length≤16∧bv (List.drop (x_1+1).toNat x)=bv x)∧((↑x.length:Int) - (x_1+1)).toNat<((↑x.length:Int) - x_1).toNat)))∧(decide (x_1<(↑x.length:Int))=false→0=aO x∧True))
theorem sK:mT:=by
 unfold mT;intro h ⟨hb,hw⟩ _;unfold aA at *;refine ⟨fun hl=>?_,fun hl=>⟨⟨by omega,by omega,by have:=of_decide_eq_false hl; omega,by simp⟩,fun i ⟨h0,h1,h2,h3⟩=>⟨fun hlt=>?_,fun hge=>?_⟩⟩⟩
 ·have:=of_decide_eq_true hl;unfold aO;rw [if_pos (by omega)];exact ⟨rfl,trivial⟩
 ·have hlt:i<(h.length:Int):=by simpa using hlt
  have e:=aW ((0,false,0):bW) h0 hlt;have hF:aO h=bv h:=by unfold aO; rw [if_neg (by omega)]
  rw [hF,← h3,e];simp only [bv,jG,eH,ak];generalize h.getD i.toNat (0,false,0)=s at *;obtain ⟨g,o,a⟩:=s;simp only;cases o <;> grind
 ·have hF:aO h=bv h:=by unfold aO; rw [if_neg (by omega)]
  rw [bt (by simpa using hge)] at h3;rw [hF,← h3];exact ⟨rfl,trivial⟩
theorem v7:vO.ok Tryz.prog 47:=aF (ann:=pC) aq Tryz.func47 (by kernel_rfl) sK
def cu (i:Int) (s:bW):Int:=i+65536 * s.1
def qE:Spec:={ Ts:=[ty_I,bC],Rs:=[.dat bb],pre:=fun ((i,s):Int×bW)=>0≤i∧i<65536∧0≤s.1∧s.1≤65535,F:=fun ((i,s):Int×bW)=>cu i s }
def rj:Prop :=
  ∀ (x:Int×Int×Bool×Int),ak .i64 x.1∧ak .i64 x.2.1∧True∧ak .i64 x.2.2.2→0≤x.1∧x.1<65536∧0≤x.2.1∧x.2.1≤65535→(0:Int)≤16∧16<(↑IntKind.u64.bits:Int)∧(↑((IntKind.u64.wrap x.1).toNat ||| (IntKind.u64.wrap (IntKind.u64.wrap x.2.1 * 2 ^ Int.toNat 16)).toNat):Int)=cu x.1 x.2∧True
theorem ym:rj:=by
 unfold rj;intro ⟨i,s⟩ _ ⟨h0,h1,h2,h3⟩;simp only at *;refine ⟨by omega,by rw [Ml]; omega,?_,trivial⟩;have e:(2:Int) ^ Int.toNat 16=65536:=rfl;have e3:(2:Int) ^ 16=65536:=rfl;have k:=sr (a:=i) (b:=s.1) (i:=16) h0 h2 (by rw [e3]; omega);rw [e3] at k;rw [fm (n:=i) (by omega) (by omega),fm (n:=s.1) h2 (by omega),e,fm (n:=s.1 * 65536) (by omega) (by omega),k];simp only [cu];omega
theorem rE:qE.ok Tryz.prog 112:=aF (ann:=cw) aq Tryz.func112 (by kernel_rfl) ym
def yP:Spec:=qE
def oH:Prop :=
  ∀ (x:Int×Int×Bool×Int),ak .i64 x.1∧ak .i64 x.2.1∧True∧ak .i64 x.2.2.2→0≤x.1∧x.1<65536∧0≤x.2.1∧x.2.1≤65535→ak .u64 (65536 * IntKind.u64.wrap x.2.1)∧ak .u64 (IntKind.u64.wrap x.1+65536 * IntKind.u64.wrap x.2.1)∧IntKind.u64.wrap x.1+65536 * IntKind.u64.wrap x.2.1=cu x.1 x.2∧True
theorem vo:oH:=by
 unfold oH;intro ⟨i,s⟩ _ ⟨h0,h1,h2,h3⟩;simp only at *;rw [fm (n:=i) (by omega) (by omega),fm (n:=s.1) h2 (by omega)];simp only [cu,ak]
 repeat' apply And.intro
 all_goals first | exact trivial | omega
theorem oT:yP.ok Tryz.prog 40:=aF (ann:=cw) aq Tryz.func40 (by kernel_rfl) vo
theorem ld:∀ {h:List bW},bv h=0→∀ s∈h,jG s=0
 | [],_=>by simp
 | x::l,h=>by
  simp only [bv] at h;split at h
  ·omega
  ·intro s hs;rcases List.mem_cons.1 hs with rfl | hs
   ·omega
   ·exact ld h s hs
theorem gF {h:List bW} (hf:aO h=0):h.length≤16∧∀ s∈h,0≤s.1∧s.1≤65535∧0≤s.2.2∧s.2.2≤255:=by
 unfold aO at hf;split at hf
 ·omega
 ·refine ⟨by omega,fun s hs=>?_⟩;have:=ld hf s hs;unfold jG at this;split at this <;> omega
def ce (h:List bW) (n:Int):Int×Int :=
 if aO h≠0 then (0,aO h) else if n % 65536<h.length∧(h.getD (n % 65536).toNat (0,false,0)).2.1=true∧cu (n % 65536) (h.getD (n % 65536).toNat (0,false,0))=n then (n % 65536,0) else (0,9)
def Bc:Spec:={ Ts:=[.arr bC,bb],Rs:=[.dat ty_I,.dat ty_I],pre:=fun _=>True,F:=fun ((h,n):List bW×Int)=>ce h n }
def rl:Prop :=
  ∀ (x:List (Int×Bool×Int)×Int),(x.1.length * (8+(8+8))≤aA∧∀ (x_1:Int×Bool×Int),x_1∈x.1→ak .i64 x_1.1∧True∧ak .i64 x_1.2.2)∧ak .u64 x.2→True→True∧(decide (aO x.1≠0)=true→0=(ce x.1 x.2).1∧aO x.1=(ce x.1 x.2).2∧True)∧(decide (aO x.1≠0)=false→(decide (IntKind.u64.wrap (↑x.1.length:Int)≤(↑(x.2.toNat &&& Int.toNat 65535):Int))=false→0≤(↑(x.2.toNat &&& Int.toNat 65535):Int))∧(decide (IntKind.u64.wrap (↑x.1.length:Int)≤(↑(x.2.toNat &&& Int.toNat 65535):Int))=false→(↑(x.2.toNat &&& Int.toNat 65535):Int)<(↑x.1.length:Int))∧((decide (IntKind.u64.wrap (↑x.1.length:Int)≤(↑(x.2.toNat &&& Int.toNat 65535):Int))||!(x.1.getD (↑(x.2.toNat &&& Int.toNat 65535):Int).toNat (0,false,0)).2.1)=false→0≤(↑(x.2.toNat &&& Int.toNat 65535):Int))∧((decide (IntKind.u64.wrap (↑x.1.length:Int)≤(↑(x.2.toNat &&& Int.toNat 65535):Int))||!(x.1.getD (↑(x.2.toNat &&& Int.toNat 65535):Int).toNat (0,false,0)).2.1)=false→(↑(x.2.toNat &&& Int.toNat 65535):Int)<(↑x.1.length:Int))∧((decide (IntKind.u64.wrap (↑x.1.length:Int)≤(↑(x.2.toNat &&& Int.toNat 65535):Int))||!(x.1.getD (↑(x.2.toNat &&& Int.toNat 65535):Int).toNat (0,false,0)).2.1)=false→0≤IntKind.i64.wrap (↑(x.2.toNat &&& Int.toNat 65535):Int)∧IntKind.i64.wrap (↑(x.2.toNat &&& Int.toNat 65535):Int)<65536∧0≤(x.1.getD (↑(x.2.toNat &&& Int.toNat 65535):Int).toNat (0,false,0)).1∧(x.1.getD (↑(x.2.toNat &&& Int.toNat 65535):Int).toNat (0,false,0)).1≤65535)∧((decide (IntKind.u64.wrap (↑x.1.length:Int)≤(↑(x.2.toNat &&& Int.toNat 65535):Int))||!(x.1.getD (↑(x.2.toNat &&& Int.toNat 65535):Int).toNat (0,false,0)).2.1||decide (cu (IntKind.i64.wrap (↑(x.2.toNat &&& Int.toNat 65535):Int)) (x.1.getD (↑(x.2.toNat &&& Int.toNat 65535):Int).toNat (0,false,0))≠x.2))=true→0=(ce x.1 x.2).1∧9=(ce x.1 x.2).2∧True)∧((decide (IntKind.u64.wrap (↑x.1.length:Int)≤(↑(x.2.toNat &&& Int.toNat 65535):Int))||!(x.1.getD (↑(x.2.toNat &&& Int.toNat 65535):Int).toNat (0,false,0)).2.1||decide (cu (IntKind.i64.wrap (↑(x.2.toNat &&& Int.toNat 65535):Int)) (x.1.getD (↑(x.2.toNat &&& Int.toNat 65535):Int).toNat (0,false,0))≠x.2))=false→IntKind.i64.wrap (↑(x.2.toNat &&& Int.toNat 65535):Int)=(ce x.1 x.2).1∧0=(ce x.1 x.2).2∧True))
theorem yo:rl:=by
 unfold rl;intro ⟨h,n⟩ ⟨⟨hb,hw⟩,hn⟩ _;simp only [ak] at hn
 have hand:((n.toNat &&& Int.toNat 65535:Nat):Int)=n % 65536:=by
  have:=o8 hn.1 16;simpa using this
 simp only at *;rw [hand];have h0:0≤n % 65536:=by omega
 have h1:n % 65536<65536:=by omega
 rw [je (n:=n % 65536) (by omega) (by omega)];have hl:IntKind.u64.wrap (h.length:Int)=h.length:=fm (by omega) (by unfold aA at hb; omega);rw [hl];simp only [ce];refine ⟨trivial,fun hf=>by grind,fun hf=>?_⟩;have hf:aO h=0:=by simpa using hf
 obtain ⟨z1,z2⟩:=gF hf
 have hm:n % 65536<h.length→0≤(h.getD (n % 65536).toNat (0,false,0)).1∧(h.getD (n % 65536).toNat (0,false,0)).1≤65535:=fun hlt=>by
  have:=z2 _ (aI (0,false,0) h0 hlt);omega
 generalize h.getD (n % 65536).toNat (0,false,0)=s at *;generalize n % 65536=i at *;simp only [hf,cu];obtain ⟨g,o,a⟩:=s;cases o <;> simp only at * <;> grind
theorem rF:Bc.ok Tryz.prog 113:=aF (ann:=cw) (ae iQ (ae rE aq)) Tryz.func113 (by kernel_rfl) yo
def gC (h:List bW) (n:Int):Int×Int:=if (ce h n).2≠0 then (0,(ce h n).2) else ((h.getD (ce h n).1.toNat (0,false,0)).2.2,0)
def Bb:Spec:={ Ts:=[.arr bC,bb],Rs:=[.dat ty_I,.dat ty_I],pre:=fun _=>True,F:=fun ((h,n):List bW×Int)=>gC h n }
def rk:Prop :=
  ∀ (x:List (Int×Bool×Int)×Int),(x.1.length * (8+(8+8))≤aA∧∀ (x_1:Int×Bool×Int),x_1∈x.1→ak .i64 x_1.1∧True∧ak .i64 x_1.2.2)∧ak .u64 x.2→True→True∧(decide ((ce x.1 x.2).2≠0)=true→0=(gC x.1 x.2).1∧(ce x.1 x.2).2=(gC x.1 x.2).2∧True)∧(decide ((ce x.1 x.2).2≠0)=false→0≤(ce x.1 x.2).1∧(ce x.1 x.2).1<(↑x.1.length:Int)∧(x.1.getD (ce x.1 x.2).1.toNat (0,false,0)).2.2=(gC x.1 x.2).1∧0=(gC x.1 x.2).2∧True)
theorem yn:rk:=by
 unfold rk;intro ⟨h,n⟩ ⟨_,hn⟩ _;simp only [ak] at hn
 have hr:(ce h n).2=0→0≤(ce h n).1∧(ce h n).1<h.length:=by
  unfold ce
  grind
 simp only [gC] at *;generalize ce h n=f at *
 grind
theorem B7:Bb.ok Tryz.prog 69:=aF (ann:=cw) (ae rF aq) Tryz.func69 (by kernel_rfl) yn
def eD (h:List bW) (n:Int):List bW×Int:=if (ce h n).2≠0 then ([],(ce h n).2) else (h.set (ce h n).1.toNat ((h.getD (ce h n).1.toNat (0,false,0)).1,false,0),0)
def yV:Spec:={ Ts:=[.arr bC,bb],Rs:=[.own 82 bC,.dat ty_I],pre:=fun _=>True,F:=fun ((h,n):List bW×Int)=>eD h n }
def oN:Prop :=
  ∀ (x:List (Int×Bool×Int)×Int),(x.1.length * (8+(8+8))≤aA∧∀ (x_1:Int×Bool×Int),x_1∈x.1→ak .i64 x_1.1∧True∧ak .i64 x_1.2.2)∧ak .u64 x.2→True→True∧(decide ((ce x.1 x.2).2≠0)=true→([]:List (Int×Bool×Int))=(eD x.1 x.2).1∧(ce x.1 x.2).2=(eD x.1 x.2).2∧True)∧(decide ((ce x.1 x.2).2≠0)=false→True∧0≤(ce x.1 x.2).1∧(ce x.1 x.2).1<(↑x.1.length:Int)∧0≤(ce x.1 x.2).1∧(ce x.1 x.2).1<(↑x.1.length:Int)∧(ce x.1 x.2).1.toNat<x.1.length∧x.1.set (ce x.1 x.2).1.toNat ((x.1.getD (ce x.1 x.2).1.toNat (0,false,0)).1,false,0)=(eD x.1 x.2).1∧0=(eD x.1 x.2).2∧True)
theorem vv:oN:=by
 unfold oN;intro ⟨h,n⟩ ⟨_,hn⟩ _;simp only [ak] at hn
 have hr:(ce h n).2=0→0≤(ce h n).1∧(ce h n).1<h.length:=by
  unfold ce
  grind
 simp only [eD] at *;generalize ce h n=f at *
 grind
theorem zt:yV.ok Tryz.prog 70:=aF (ann:=cw) (ae rF (ae bU aq)) Tryz.func70 (by kernel_rfl) vv
def ny (h:List bW) (i at_:Int):bW:=((h.getD i.toNat (0,false,0)).1+1,true,at_)
def ed (h:List bW) (at_:Int):List bW×Int×Int :=
 if aO h≠0 then ([],0,aO h) else if eH at_=false then ([],0,4) else if ai aM 0 h<0 then ([],0,7)
 else (h.set (ai aM 0 h).toNat (ny h (ai aM 0 h) at_),cu (ai aM 0 h) (ny h (ai aM 0 h) at_),0)
def CZ:Nat→Option LoopGen
 | 1000003=>some { rd:=[.dat 0 (.arr bC),.dat 1 ty_I],A:=fun ((h,at_):List bW×Int)=>{ cs:=[.dat 7 ty_I],inv:=fun (e:Int)=>e=if aO h≠0 then aO h else if eH at_=false then 4 else 0,mu:=fun _=>0 } }
 | _=>none
def Ba:Spec:={ Ts:=[.arr bC,ty_I],Rs:=[.own 82 bC,.dat bb,.dat ty_I],pre:=fun _=>True,F:=fun ((h,at_):List bW×Int)=>ed h at_ }
def ri:Prop :=
  ∀ (x:List (Int×Bool×Int)×Int),(x.1.length * (8+(8+8))≤aA∧∀ (x_1:Int×Bool×Int),x_1∈x.1→ak .i64 x_1.1∧True∧ak .i64 x_1.2.2)∧ak .i64 x.2→True→True∧(decide (aO x.1=0)=true→True)∧(((decide (aO x.1=0)&&!eH x.2)=true→(4:Int)=if aO x.1≠0 then aO x.1 else if eH x.2=false then (4:Int) else (0:Int))∧((decide (aO x.1=0)&&!eH x.2)=false→aO x.1=if aO x.1≠0 then aO x.1 else if eH x.2=false then (4:Int) else (0:Int)))∧∀ (x_1:Int),(x_1=if aO x.1≠0 then aO x.1 else if eH x.2=false then (4:Int) else (0:Int))→(decide (x_1≠0)=true→([]:List (Int×Bool×Int))=(ed x.1 x.2).1∧0=(ed x.1 x.2).2.1∧x_1=(ed x.1 x.2).2.2∧True)∧(decide (x_1≠0)=false→(∀ (s:bW),s∈x.1→(fun (_:Int×Bool×Int)=>True,fun (x:Int×Bool×Int)=>aM x).1 s)∧(decide (ai (fun (x:Int×Bool×Int)=>aM x) 0 x.1<0)=true→([]:List (Int×Bool×Int))=(ed x.1 x.2).1∧0=(ed x.1 x.2).2.1∧7=(ed x.1 x.2).2.2∧True)∧(decide (ai (fun (x:Int×Bool×Int)=>aM x) 0 x.1<0)=false→True∧0≤ai (fun (x:Int×Bool×Int)=>aM x) 0 x.1∧ai (fun (x:Int×Bool×Int)=>aM x) 0 x.1<(↑x.1.length:Int)∧ak .i64 ((x.1.getD (ai (fun (x:Int×Bool×Int)=>aM x) 0 x.1).toNat (0,false,0)).1+1)∧0≤ai (fun (x:Int×Bool×Int)=>aM x) 0 x.1∧ai (fun (x:Int×Bool×Int)=>aM x) 0 x.1<(↑x.1.length:Int)∧(ai (fun (x:Int×Bool×Int)=>aM x) 0 x.1).toNat<x.1.length∧0≤ai (fun (x:Int×Bool×Int)=>aM x) 0 x.1∧ai (fun (x:Int×Bool×Int)=>aM x) 0 x.1<(↑(x.1.set (ai (fun (x:Int×Bool×Int)=>aM x) 0 x.1).toNat ((x.1.getD (ai (fun (x:Int×Bool×Int)=>aM x) 0 x.1).toNat (0,false,0)).1+1,true,x.2)).length:Int)∧(ai (fun (x:Int×Bool×Int)=>aM x) 0 x.1).toNat<(x.1.set (ai (fun (x:Int×Bool×Int)=>aM x) 0 x.1).toNat ((x.1.getD (ai (fun (x:Int×Bool×Int)=>aM x) 0 x.1).toNat (0,false,0)).1+1,true,x.2)).length∧(0≤ai (fun (x:Int×Bool×Int)=>aM x) 0 x.1∧ai (fun (x:Int×Bool×Int)=>aM x) 0 x.1<65536∧0≤((x.1.set (ai (fun (x:Int×Bool×Int)=>aM x) 0 x.1).toNat ((x.1.getD (ai (fun (x:Int×Bool×Int)=>aM x) 0 x.1).toNat (0,false,0)).1+1,true,x.2)).getD (ai (fun (x:Int×Bool×Int)=>aM x) 0 x.1).toNat (0,false,0)).1∧((x.1.set (ai (fun (x:Int×Bool×Int)=>aM x) 0 x.1).toNat ((x.1.getD (ai (fun (x:Int×Bool×Int)=>aM x) 0 x.1).toNat (0,false,0)).1+1,true,x.2)).getD (ai (fun (x:Int×Bool×Int)=>aM x) 0 x.1).toNat (0,false,0)).1≤65535)∧x.1.set (ai (fun (x:Int×Bool×Int)=>aM x) 0 x.1).toNat ((x.1.getD (ai (fun (x:Int×Bool×Int)=>aM x) 0 x.1).toNat (0,false,0)).1+1,true,x.2)=(ed x.1 x.2).1∧cu (ai (fun (x:Int×Bool×Int)=>aM x) 0 x.1) ((x.1.set (ai (fun (x:Int×Bool×Int)=>aM x) 0 x.1).toNat ((x.1.getD (ai (fun (x:Int×Bool×Int)=>aM x) 0 x.1).toNat (0,false,0)).1+1,true,x.2)).getD (ai (fun (x:Int×Bool×Int)=>aM x) 0 x.1).toNat (0,false,0))=(ed x.1 x.2).2.1∧0=(ed x.1 x.2).2.2∧True))
theorem yl:ri:=by
 unfold ri;intro ⟨h,at_⟩ ⟨⟨_,hw⟩,ha⟩ _;simp only at *;refine ⟨trivial,fun _=>trivial,⟨fun hc=>by grind,fun hc=>by grind⟩,fun e he=>⟨fun hz=>by unfold ed; grind,fun hz=>?_⟩⟩;have hz:e=0:=by simpa using hz
 have hf:aO h=0:=by grind
 have ht:eH at_=true:=by grind
 obtain ⟨z1,z2⟩:=gF hf
 have hO:ed h at_=if ai aM 0 h<0 then ([],0,7) else (h.set (ai aM 0 h).toNat (ny h (ai aM 0 h) at_),cu (ai aM 0 h) (ny h (ai aM 0 h) at_),0):=by
  unfold ed;simp [hf,ht]
 rw [hO];have hk:=dq aM ((0,false,0):bW) h 0 (by omega);have hr:=gT aM h 0;have hg:=fun q=>gH aM ((0,false,0):bW) h 0 q (by omega)
 generalize ai aM 0 h=i at *;refine ⟨fun _ _=>trivial,fun hi=>by rw [if_pos (of_decide_eq_true hi)]; exact ⟨rfl,rfl,rfl,trivial⟩,fun hi=>?_⟩;have hi:0≤i:=by have:=of_decide_eq_false hi; omega
 have hlt:i<h.length:=by omega
 have hgi:=hg hi;have hm:=z2 _ (aI ((0,false,0):bW) hi hlt);simp only [Int.sub_zero] at hgi;rw [if_neg (by omega)];have hgs:∀ v:bW,(h.set i.toNat v).getD i.toNat (0,false,0)=v:=fun v=>by simp [show i.toNat<h.length by omega]
 simp only [hgs,List.length_set,ny];unfold aM at hgi;generalize h.getD i.toNat (0,false,0)=s at *;simp only [Bool.and_eq_true,decide_eq_true_eq] at hgi;refine ⟨trivial,by omega,by omega,by simp only [ak]; omega,by omega,by omega,by omega,by omega,by omega,by omega,⟨by omega,by omega,by omega,by omega⟩,by simp⟩
theorem B6:Ba.ok Tryz.prog 67:=aF (ann:=CZ) (ae iQ (ae kM (ae El (ae bU (ae rE (ae B9 aq)))))) Tryz.func67 (by kernel_rfl) yl
theorem kr {α:Type} (f:α→α) (h:List α) (i:Nat):((h.take i).map f++h.drop i).length=h.length:=by simp; omega
theorem p9 {α:Type} (f:α→α) (h:List α) (d:α) (i:Nat) (hi:i<h.length):((h.take i).map f++h.drop i).getD i d=h.getD i d:=by
 simp only [List.getD_eq_getElem?_getD];rw [List.getElem?_append_right (by simp; omega)];simp [show min i h.length=i by omega]
theorem mB {α:Type} (f:α→α) (h:List α) (d:α) (i:Nat) (hi:i<h.length):((h.take i).map f++h.drop i).set i (f (h.getD i d))=(h.take (i+1)).map f++h.drop (i+1):=by
 have l1:((h.take i).map f).length=i:=by simp; omega
 rw [List.set_append_right _ _ (by omega),l1,Nat.sub_self,List.drop_eq_getElem_cons hi,List.set_cons_zero,List.take_succ_eq_append_getElem hi,List.map_append,List.append_assoc];simp [hi]
theorem nE {α:Type} (f:α→α) (h:List α) (d:α) (i:Nat) (hi:i<h.length) (hf:f (h.getD i d)=h.getD i d):(h.take i).map f++h.drop i=(h.take (i+1)).map f++h.drop (i+1):=by
 rw [← mB f h d i hi,hf];apply List.ext_getElem?;intro j;rw [List.getElem?_set];split
 ·rename_i e;subst e;have:=p9 f h d i hi;rw [if_pos (by rw [kr]; exact hi)];simp only [List.getD_eq_getElem?_getD] at this;have hl:i<((h.take i).map f++h.drop i).length:=by rw [kr]; exact hi
  rw [List.getElem?_eq_getElem hl] at this ⊢;simp only [Option.getD_some] at this;rw [this];simp [hi]
 ·rfl
def dv (to:List Int) (s:bW):bW:=if s.2.1=true then (s.1,s.2.1,to.getD s.2.2.toNat 0) else s
def fX (h:List bW) (to:List Int):List bW×Int:=if aO h≠0 then ([],aO h) else if to.length≠256 then ([],3) else if (to.any fun v=>!eH v)=true then ([],4) else (h.map (dv to),0)
def A9:Spec:={ Ts:=[.arr bC,.arr ty_I],Rs:=[.own 82 bC,.dat ty_I],pre:=fun _=>True,F:=fun ((h,to):List bW×List Int)=>fX h to }
def CY:Nat→Option LoopGen
 | 10=>some { rd:=[.dat 0 (.arr bC),.dat 1 (.arr ty_I)],wr:=[7,25],A:=fun ((h,to):List bW×List Int)=>{ cs:=[.own 7 82 bC,.same 25 7,.dat 27 ty_I],inv:=fun ((out,_,i):List bW×Unit×Int)=>0≤i∧i≤h.length∧aO h=0∧to.length=256∧out=(h.take i.toNat).map (dv to)++h.drop i.toNat,mu:=fun ((_,_,i):List bW×Unit×Int)=>(h.length - i).toNat } }
 | 1000013=>some { rd:=[.dat 0 (.arr bC),.dat 1 (.arr ty_I),.dat 27 ty_I],wr:=[7,25],A:=fun ((h,to,i):List bW×List Int×Int)=>{ cs:=[.own 7 82 bC,.same 25 7],inv:=fun ((out,_):List bW×Unit)=>out=(h.take (i.toNat+1)).map (dv to)++h.drop (i.toNat+1),mu:=fun _=>0 } }
 | _=>none
def rh:Prop :=
  ∀ (x:List (Int×Bool×Int)×List Int),((x.1.length * (8+(8+8))≤aA∧∀ (x_1:Int×Bool×Int),x_1∈x.1→ak .i64 x_1.1∧True∧ak .i64 x_1.2.2)∧x.2.length * 8≤aA∧∀ (x_1:Int),x_1∈x.2→ak .i64 x_1)→True→True∧(decide (aO x.1≠0)=true→([]:List (Int×Bool×Int))=(fX x.1 x.2).1∧aO x.1=(fX x.1 x.2).2∧True)∧(decide (aO x.1≠0)=false→(decide ((↑x.2.length:Int)≠256)=true→([]:List (Int×Bool×Int))=(fX x.1 x.2).1∧3=(fX x.1 x.2).2∧True)∧(decide ((↑x.2.length:Int)≠256)=false→(∀ (s:Int),s∈x.2→(fun (_:Int)=>True,fun (x:Int)=>!eH x).1 s)∧((x.2.any fun (x:Int)=>!eH x)=true→([]:List (Int×Bool×Int))=(fX x.1 x.2).1∧4=(fX x.1 x.2).2∧True)∧((x.2.any fun (x:Int)=>!eH x)=false→True∧((0:Int)≤0∧0≤(↑x.1.length:Int)∧aO x.1=0∧x.2.length=256∧x.1=List.map (dv x.2) (List.take (Int.toNat 0) x.1)++List.drop (Int.toNat 0) x.1)∧∀ (x_1:List (Int×Bool×Int)×Unit×Int),0≤x_1.2.2∧x_1.2.2≤(↑x.1.length:Int)∧aO x.1=0∧x.2.length=256∧x_1.1=List.map (dv x.2) (List.take x_1.2.2.toNat x.1)++List.drop x_1.2.2.toNat x.1→(decide (x_1.2.2<(↑x.1.length:Int))=true→0≤x_1.2.2∧x_1.2.2<(↑x_1.1.length:Int)∧x_1.2.2.toNat<x_1.1.length∧(((x_1.1.getD x_1.2.2.toNat (0,false,0)).2.1=true→0≤(x_1.1.getD x_1.2.2.toNat (0,false,0)).2.2∧(x_1.1.getD x_1.2.2.toNat (0,false,0)).2.2<(↑x.2.length:Int)∧0≤x_1.2.2∧x_1.2.2<(↑x_1.1.length:Int)∧x_1.2.2.toNat<x_1.1.length∧x_1.1.set x_1.2.2.toNat ((x_1.1.getD x_1.2.2.toNat (0,false,0)).1,(x_1.1.getD x_1.2.2.toNat (0,false,0)).2.1,x.2.getD (x_1.1.getD x_1.2.2.toNat (0,false,0)).2.2.toNat 0)=List.map (dv x.2) (List.take (x_1.2.2.toNat+1) x.1)++List.drop (x_1.2.2.toNat+1) x.1)∧((x_1.1.getD x_1.2.2.toNat (0,false,0)).2.1=false→x_1.1=List.map (dv x.2) (List.take (x_1.2.2.toNat+1) x.1)++List.drop (x_1.2.2.toNat+1) x.1))∧∀ (x_2:List (Int×Bool×Int)×Unit),x_2.1=List.map (dv x.2) (List.take (x_1.2.2.toNat+1) x.1)++List.drop (x_1.2.2.toNat+1) x.1→ak .i64 (x_1.2.2+1)∧(0≤x_1.2.2+1∧x_1.2.2+1≤(↑x.1.length:Int)∧aO x.1=0∧x.2.length=256∧x_2.1=List.map (dv x.2) (List.take (x_1.2.2+1).toNat x.1)++List.drop (x_1.2.2+1).toNat x.1)∧((↑x.1.length:Int) - (x_1.2.2+1)).toNat<((↑x.1.length:Int) - x_1.2.2).toNat)∧(decide (x_1.2.2<(↑x.1.length:Int))=false→x_1.1=(fX x.1 x.2).1∧0=(fX x.1 x.2).2∧True))))
theorem yk:rh:=by
 unfold rh;intro ⟨h,to⟩ ⟨⟨_,hw⟩,hto,_⟩ _;simp only at *;refine ⟨trivial,fun hf=>by unfold fX; grind,fun hf=>⟨fun hl=>by unfold fX; grind,fun hl=>⟨fun _ _=>trivial,fun ha=>by unfold fX; grind,fun ha=>?_⟩⟩⟩;have hf:aO h=0:=by simpa using hf
 have hl:to.length=256:=by
  have:((to.length:Nat):Int)=256:=by simpa using hl
  omega
 obtain ⟨z1,z2⟩:=gF hf;have hS:fX h to=(h.map (dv to),0):=by unfold fX; rw [if_neg (by omega),if_neg (by omega),if_neg (by rw [ha]; simp)]
 refine ⟨trivial,⟨by omega,by omega,hf,hl,by simp⟩,fun ⟨out,u,i⟩ ⟨h0,h1,_,_,h4⟩=>⟨fun hlt=>?_,fun hge=>?_⟩⟩
 ·have hlt:i<(h.length:Int):=by simpa using hlt
  simp only at *;have hm:=z2 _ (aI ((0,false,0):bW) h0 hlt);have hlen:out.length=h.length:=by rw [h4]; exact kr _ _ _
  have hget:out.getD i.toNat (0,false,0)=h.getD i.toNat (0,false,0):=by rw [h4]; exact p9 _ _ _ _ (by omega)
  have hset:=mB (dv to) h ((0,false,0):bW) i.toNat (by omega);have hkeep:=nE (dv to) h ((0,false,0):bW) i.toNat (by omega);rw [← h4] at hset hkeep;rw [hget];refine ⟨h0,by omega,by omega,⟨fun ho=>⟨by omega,by omega,h0,by omega,by omega,?_⟩,fun ho=>?_⟩,fun ⟨o2,_⟩ e2=>⟨by simp only [ak]; omega,⟨by omega,by omega,hf,hl,?_⟩,by omega⟩⟩
  ·rw [← hset];unfold dv;rw [if_pos ho]
  ·apply hkeep;unfold dv;rw [if_neg (by rw [ho]; simp)]
  ·rw [show (i+1).toNat=i.toNat+1 by omega];exact e2
 ·have hge:¬ i<(h.length:Int):=by simpa using hge
  simp only at *;rw [hS,h4,List.take_of_length_le (by omega),List.drop_of_length_le (by omega)];simp
theorem rD:A9.ok Tryz.prog 100:=aF (ann:=CY) (ae iQ (ae Hq (ae B2 (ae bU aq)))) Tryz.func100 (by kernel_rfl) yk
def yG:Spec:={ Ts:=[.arr bC,.arr bC],Rs:=[.dat .bool],pre:=fun _=>True,F:=fun (x:List bW×List bW)=>decide (x.1=x.2) }
def Ae:Nat→Option LoopGen
 | 4=>some { rd:=[.dat 0 (.arr bC),.dat 1 (.arr bC)],A:=fun (g:List bW×List bW)=>{ cs:=[.dat 13 ty_I],inv:=fun (i:Int)=>g.1.length=g.2.length∧0≤i∧i≤g.1.length∧g.1.take i.toNat=g.2.take i.toNat,mu:=fun (i:Int)=>(g.1.length - i).toNat } }
 | _=>none
def ow:Prop :=
  ∀ (x:List (Int×Bool×Int)×List (Int×Bool×Int)),((x.1.length * (8+(8+8))≤aA∧∀ (x_1:Int×Bool×Int),x_1∈x.1→ak .i64 x_1.1∧True∧ak .i64 x_1.2.2)∧x.2.length * (8+(8+8))≤aA∧∀ (x_1:Int×Bool×Int),x_1∈x.2→ak .i64 x_1.1∧True∧ak .i64 x_1.2.2)→True→(decide ((↑x.1.length:Int)≠(↑x.2.length:Int))=true→false=decide (x.1=x.2)∧True)∧(decide ((↑x.1.length:Int)≠(↑x.2.length:Int))=false→(x.1.length=x.2.length∧(0:Int)≤0∧0≤(↑x.1.length:Int)∧List.take (Int.toNat 0) x.1=List.take (Int.toNat 0) x.2)∧∀ (x_1:Int),x.1.length=x.2.length∧0≤x_1∧x_1≤(↑x.1.length:Int)∧List.take x_1.toNat x.1=List.take x_1.toNat x.2→(decide (x_1<(↑x.1.length:Int))=true→0≤x_1∧x_1<(↑x.1.length:Int)∧0≤x_1∧x_1<(↑x.2.length:Int)∧((!(decide ((x.1.getD x_1.toNat (0,false,0)).1=(x.2.getD x_1.toNat (0,false,0)).1)&&((x.1.getD x_1.toNat (0,false,0)).2.1 == (x.2.getD x_1.toNat (0,false,0)).2.1&&decide ((x.1.getD x_1.toNat (0,false,0)).2.2=(x.2.getD x_1.toNat (0,false,0)).2.2))))=true→false=decide (x.1=x.2)∧True)∧((!(decide ((x.1.getD x_1.toNat (0,false,0)).1=(x.2.getD x_1.toNat (0,false,0)).1)&&((x.1.getD x_1.toNat (0,false,0)).2.1 == (x.2.getD x_1.toNat (0,false,0)).2.1&&decide ((x.1.getD x_1.toNat (0,false,0)).2.2=(x.2.getD x_1.toNat (0,false,0)).2.2))))=false→ak .i64 (x_1+1)∧(x.1.length=x.2.length∧0≤x_1+1∧x_1+1≤(↑x.1.length:Int)∧List.take (x_1+1).toNat x.1=List.take (x_1+1).toNat x.2)∧((↑x.1.length:Int) - (x_1+1)).toNat<((↑x.1.length:Int) - x_1).toNat))∧(decide (x_1<(↑x.1.length:Int))=false→true=decide (x.1=x.2)∧True))
theorem vd:ow:=by
 unfold ow;intro ⟨a,b⟩ ⟨⟨hb,_⟩,_⟩ _;unfold aA at hb;simp only at *;refine ⟨fun h=>?_,fun h=>?_⟩
 ·have h:a.length≠b.length:=by have:=of_decide_eq_true h; omega
  have:a≠b:=fun e=>h (by rw [e])
  simp [this]
 have hl:a.length=b.length:=by have:=of_decide_eq_false h; omega
 refine ⟨⟨hl,by omega,by omega,by simp⟩,fun i ⟨_,h0,h1,ht⟩=>⟨fun hlt=>?_,fun hge=>?_⟩⟩
 ·have hlt:i<a.length:=by simpa using hlt
  have key:∀ s t:bW,(!(decide (s.1=t.1)&&(s.2.1 == t.2.1&&decide (s.2.2=t.2.2))))=decide (s≠t):=by
   rintro ⟨s1,s2,s3⟩ ⟨t1,t2,t3⟩;simp only [ne_eq,Prod.mk.injEq];by_cases e1:s1=t1 <;> by_cases e2:s2=t2 <;> by_cases e3:s3=t3 <;> simp [e1,e2,e3]
  simp only [key];refine ⟨h0,hlt,h0,by omega,fun hne=>?_,fun he=>?_⟩
  ·have hne:a.getD i.toNat (0,false,0)≠b.getD i.toNat (0,false,0):=of_decide_eq_true hne;have:a≠b:=fun e=>hne (by rw [e])
   simp [this]
  ·have he:a.getD i.toNat (0,false,0)=b.getD i.toNat (0,false,0):=Classical.not_not.1 (of_decide_eq_false he);refine ⟨by simp only [ak]; omega,⟨hl,by omega,by omega,?_⟩,by omega⟩;rw [show (i+1).toNat=i.toNat+1 by omega];exact mf hl (by omega) ht he
 ·have hge:¬ i<a.length:=by simpa using hge
  have hi:i.toNat=a.length:=by omega
  rw [hi,List.take_of_length_le (Nat.le_refl _),List.take_of_length_le (by omega)] at ht;simp [ht]
theorem zj:yG.ok Tryz.prog 53:=aF (ann:=Ae) aq Tryz.func53 (by kernel_rfl) vd
def bn (n:Int):Int→List bW→Int
 | _,[]=>-1
 | k,s::l=>if s.2.1=true∧cu k s=n then k else bn n (k+1) l
def GP:Spec:={ Ts:=[.arr bC,bb],Rs:=[.dat ty_I],pre:=fun ((h,_):List bW×Int)=>aO h=0,F:=fun ((h,n):List bW×Int)=>bn n 0 h }
def H1:Nat→Option LoopGen
 | 2=>some { rd:=[.dat 7 (.arr bC),.dat 1 bb],A:=fun ((h,n):List bW×Int)=>{ cs:=[.dat 9 ty_I],inv:=fun (i:Int)=>0≤i∧i≤h.length∧aO h=0∧bn n i (h.drop i.toNat)=bn n 0 h,mu:=fun (i:Int)=>(h.length - i).toNat } }
 | _=>none
def xg:Prop :=
  ∀ (x:List (Int×Bool×Int)×Int),(x.1.length * (8+(8+8))≤aA∧∀ (x_1:Int×Bool×Int),x_1∈x.1→ak .i64 x_1.1∧True∧ak .i64 x_1.2.2)∧ak .u64 x.2→aO x.1=0→((0:Int)≤0∧0≤(↑x.1.length:Int)∧aO x.1=0∧bn x.2 0 (List.drop (Int.toNat 0) x.1)=bn x.2 0 x.1)∧∀ (x_1:Int),0≤x_1∧x_1≤(↑x.1.length:Int)∧aO x.1=0∧bn x.2 x_1 (List.drop x_1.toNat x.1)=bn x.2 0 x.1→(decide (x_1<(↑x.1.length:Int))=true→0≤x_1∧x_1<(↑x.1.length:Int)∧((x.1.getD x_1.toNat (0,false,0)).2.1=true→0≤x_1∧x_1<65536∧0≤(x.1.getD x_1.toNat (0,false,0)).1∧(x.1.getD x_1.toNat (0,false,0)).1≤65535)∧(((x.1.getD x_1.toNat (0,false,0)).2.1&&decide (cu x_1 (x.1.getD x_1.toNat (0,false,0))=x.2))=true→x_1=bn x.2 0 x.1∧True)∧(((x.1.getD x_1.toNat (0,false,0)).2.1&&decide (cu x_1 (x.1.getD x_1.toNat (0,false,0))=x.2))=false→ak .i64 (x_1+1)∧(0≤x_1+1∧x_1+1≤(↑x.1.length:Int)∧aO x.1=0∧bn x.2 (x_1+1) (List.drop (x_1+1).toNat x.1)=bn x.2 0 x.1)∧((↑x.1.length:Int) - (x_1+1)).toNat<((↑x.1.length:Int) - x_1).toNat))∧(decide (x_1<(↑x.1.length:Int))=false→(-1)=bn x.2 0 x.1∧True)
theorem Dw:xg:=by
 unfold xg;intro ⟨h,n⟩ ⟨⟨_,_⟩,_⟩ hf;simp only at *;obtain ⟨z1,z2⟩:=gF hf;refine ⟨⟨by omega,by omega,hf,by simp⟩,fun i ⟨h0,h1,_,h3⟩=>⟨fun hlt=>?_,fun hge=>?_⟩⟩
 ·have hlt:i<(h.length:Int):=by simpa using hlt
  have hm:=z2 _ (aI ((0,false,0):bW) h0 hlt);rw [aW ((0,false,0):bW) h0 hlt] at h3;simp only [bn] at h3;generalize h.getD i.toNat (0,false,0)=s at *;refine ⟨h0,hlt,fun _=>⟨h0,by omega,hm.1,by omega⟩,fun hc=>?_,fun hc=>⟨by simp only [ak]; omega,⟨by omega,by omega,hf,?_⟩,by omega⟩⟩
  ·rw [if_pos (by simpa using hc)] at h3;exact ⟨h3,trivial⟩
  ·rw [if_neg (by simpa using hc)] at h3;exact h3
 ·have hge:¬ i<(h.length:Int):=by simpa using hge
  rw [bt hge] at h3;exact ⟨h3,trivial⟩
theorem Hn:GP.ok Tryz.prog 41:=aF (ann:=H1) (ae oT aq) Tryz.func41 (by kernel_rfl) Dw
end
section
open Go
set_option maxRecDepth 100000
set_option maxHeartbeats 1000000
abbrev aE:Ty:=.pair (.arr bb) (.pair (.arr ty_I) (.pair (.arr cz) (.arr bC)))
abbrev an:=List Int×List Int×List bk×List bW
def eK (h:List bW):List Int:=(h.filter fun s=>s.2.1).map (·.2.2)
def bq (s:an):List Int:=(s.2.1.filter fun v=>decide (0≤v))++eK s.2.2.2++s.2.2.1.map (·.1)
def ap (s:an):List Int:=fH (eb ((bD s.2.1 s.1.length).1++eK s.2.2.2++s.2.2.1.map (·.1)))
def aC (s:an):Int :=
 if (au s.1).2.2≠0 then (au s.1).2.2 else if aH s.2.1 s.1.length≠0 then aH s.2.1 s.1.length else if bR s.2.2.1≠0 then bR s.2.2.1 else if aO s.2.2.2≠0 then aO s.2.2.2 else ba s.1 (bq s)
theorem jV (r:List Int) (n:Int):(bD r n).1.length≤r.length:=by
 unfold bD;split
 ·simp
 ·have h1:(fH (eb (r.filter fun v=>!decide (v<0)))).length≤_:=jS _;have h2:=List.length_filter_le (fun v:Int=>!decide (v<0)) r;rw [iL] at h1;simp only;omega
theorem i9 (h:List bW):(eK h).length≤h.length:=by
 unfold eK;rw [List.length_map];exact List.length_filter_le _ _
theorem tT (h:List bW) (x:bW):eK (h++[x])=if x.2.1=true then eK h++[x.2.2] else eK h:=by
 unfold eK;rw [List.filter_append,List.map_append];by_cases hx:x.2.1=true
 ·rw [if_pos hx,List.filter_cons_of_pos (by simpa using hx)]; simp
 ·rw [if_neg hx,List.filter_cons_of_neg (by simpa using hx)]; simp
theorem px {l:List Int} {x:Int}:x∈fH (eb l) ↔ x∈l:=by
 rw [(sj (kG l)).2 x,pM]
theorem gG {s:an} (h:aH s.2.1 s.1.length=0) {x:Int}:x∈ap s ↔ x∈bq s:=by
 unfold ap bq;rw [px,List.mem_append,List.mem_append,List.mem_append,List.mem_append]
 have:x∈(bD s.2.1 s.1.length).1 ↔ x∈s.2.1.filter fun v=>decide (0≤v):=by
  unfold bD;rw [if_neg (by omega)];simp only;rw [px,List.mem_filter,List.mem_filter];simp
 rw [this]
theorem xn:∀ (l:List bk) (q:Int),cJ q l=0→∀ x∈l,0≤x.1∧x.1≤255
 | [],_,_,x,hx=>by cases hx
 | y::l,q,h,x,hx=>by
  simp only [cJ] at h;split at h
  ·omega
  ·rename_i hb;split at h
   ·omega
   ·rcases List.mem_cons.1 hx with rfl | hx
    ·unfold jw at hb;simp only [Bool.or_eq_true,decide_eq_true_eq,not_or] at hb;omega
    ·exact xn l _ h x hx
theorem s7:∀ (l:List bW),bv l=0→∀ x∈l,0≤x.2.2∧x.2.2≤255
 | [],_,x,hx=>by cases hx
 | y::l,h,x,hx=>by
  simp only [bv] at h;split at h
  ·rename_i hb; omega
  ·rename_i hb;rcases List.mem_cons.1 hx with rfl | hx
   ·have hb:jG x=0:=by omega
    unfold jG at hb;split at hb
    ·omega
    ·omega
   ·exact s7 l h x hx
theorem rJ {s:an} (h1:aH s.2.1 s.1.length=0) (h2:bR s.2.2.1=0) (h3:aO s.2.2.2=0):∀ x∈bq s,0≤x∧x≤255:=by
 intro x hx;unfold bq at hx;rcases List.mem_append.1 hx with hx | hx
 ·rcases List.mem_append.1 hx with hx | hx
  ·obtain ⟨hx,h0⟩:=List.mem_filter.1 hx;have h0:=of_decide_eq_true h0;unfold aH at h1;split at h1
   ·omega
   ·split at h1
    ·omega
    ·split at h1
     ·omega
     ·rename_i hn _ ha;have:=xU (by simpa using ha) hx;omega
  ·unfold eK at hx;obtain ⟨y,hy,rfl⟩:=List.mem_map.1 hx;unfold aO at h3;split at h3
   ·omega
   ·exact s7 _ h3 y (List.mem_filter.1 hy).1
 ·obtain ⟨y,hy,rfl⟩:=List.mem_map.1 hx;unfold bR at h2;split at h2
  ·omega
  ·exact xn _ _ h2 y hy
theorem jF {s:an} (h1:aH s.2.1 s.1.length=0) (h2:bR s.2.2.1=0) (h3:aO s.2.2.2=0):s.2.1.length≤32∧s.2.2.1.length≤16∧s.2.2.2.length≤16:=by
 unfold aH at h1;unfold bR at h2;unfold aO at h3;refine ⟨?_,?_,?_⟩
 ·split at h1
  ·omega
  ·split at h1 <;> omega
 ·split at h2 <;> omega
 ·split at h3 <;> omega
theorem K8 {a:List Int} (hc:(au a).2.2=0) (x:Int):(decide ((db a x).2≠0)||(db a x).1.2.2.2)=!isB (aa a).1 x:=by
 by_cases hx:isB (aa a).1 x=true
 ·obtain ⟨_,_,e⟩:=J2 hc hx;have hf:=(gP hx).2.2.2.2.2;rw [e,hx];simp only [gO,hf];simp
 ·obtain ⟨_,_,e1,_,_,_,_⟩:=b7 hc;have hx2:isB (aa a).1 x=false:=by simpa using hx
  rw [hx2];unfold db;rw [if_neg (by omega)];by_cases hl:ai (fun s:aD=>decide (s.1=x)) 0 (au a).1<0
  ·rw [if_pos hl]; simp
  ·rw [if_neg hl];have h1:=gH (fun s:aD=>decide (s.1=x)) (0,0,0,0,false) (au a).1 0 (by omega) (by omega);have h2:=dq (fun s:aD=>decide (s.1=x)) (0,0,0,0,false) (au a).1 0 (by omega);rw [Int.sub_zero] at h1;have h3:=aI (xs:=(au a).1) ((0,0,0,0,false):aD) (by omega:0≤ai (fun s:aD=>decide (s.1=x)) 0 (au a).1) (by omega);simp only;generalize (au a).1.getD (ai (fun s:aD=>decide (s.1=x)) 0 (au a).1).toNat (0,0,0,0,false)=t at *;have h1:=of_decide_eq_true h1;rw [e1] at h3
   have:t.2.2.2.2=true:=by
    cases hf:t.2.2.2.2
    ·exfalso;apply hx;have:=kR (cp a) h3 hf;unfold isB;rw [← h1,this]
    ·rfl
   simp only [gO,this];simp
def CP:Nat→Option LoopGen
 | 3=>some { rd:=[.dat 7 (.arr cz)],A:=fun (p:List bk)=>{ cs:=[.own 3 3 ty_I,.dat 9 ty_I],inv:=fun ((o,i):List Int×Int)=>0≤i∧i≤p.length∧o=(p.take i.toNat).map (·.1),mu:=fun ((_,i):List Int×Int)=>(p.length - i).toNat } }
 | _=>none
def AR:Spec:={ Ts:=[aE],Rs:=[.own 3 ty_I],pre:=fun _=>True,F:=fun (s:an)=>s.2.2.1.map (·.1) }
def qP:Prop :=
  ∀ (x:List Int×List Int×List (Int×Int)×List (Int×Bool×Int)),((x.1.length * 8≤aA∧∀ (x_1:Int),x_1∈x.1→ak .u64 x_1)∧(x.2.1.length * 8≤aA∧∀ (x_1:Int),x_1∈x.2.1→ak .i64 x_1)∧(x.2.2.1.length * (8+8)≤aA∧∀ (x_1:Int×Int),x_1∈x.2.2.1→ak .i64 x_1.1∧ak .i64 x_1.2)∧x.2.2.2.length * (8+(8+8))≤aA∧∀ (x_1:Int×Bool×Int),x_1∈x.2.2.2→ak .i64 x_1.1∧True∧ak .i64 x_1.2.2)→True→((0:Int)≤0∧0≤(↑x.2.2.1.length:Int)∧([]:List Int)=List.map (fun (x:bk)=>x.1) (List.take (Int.toNat 0) x.2.2.1))∧∀ (x_1:List Int×Int),0≤x_1.2∧x_1.2≤(↑x.2.2.1.length:Int)∧x_1.1=List.map (fun (x:bk)=>x.1) (List.take x_1.2.toNat x.2.2.1)→(decide (x_1.2<(↑x.2.2.1.length:Int))=true→0≤x_1.2∧x_1.2<(↑x.2.2.1.length:Int)∧(x_1.1.length+[(x.2.2.1.getD x_1.2.toNat (0,0)).1].length) * 8≤aA∧ak .i64 (x_1.2+1)∧(0≤x_1.2+1∧x_1.2+1≤(↑x.2.2.1.length:Int)∧x_1.1++[(x.2.2.1.getD x_1.2.toNat (0,0)).1]=List.map (fun (x:bk)=>x.1) (List.take (x_1.2+1).toNat x.2.2.1))∧((↑x.2.2.1.length:Int) - (x_1.2+1)).toNat<((↑x.2.2.1.length:Int) - x_1.2).toNat)∧(decide (x_1.2<(↑x.2.2.1.length:Int))=false→x_1.1=List.map (fun (x:bk)=>x.1) x.2.2.1∧True)
theorem xY:qP:=by
 unfold qP;intro ⟨a,r,p,h⟩ ⟨_,_,⟨hbp,_⟩,_⟩ _;unfold aA at hbp;simp only at hbp ⊢;refine ⟨⟨by omega,by omega,by simp⟩,fun ⟨o,i⟩ ⟨i0,i1,i2⟩=>⟨fun hlt=>?_,fun hge=>?_⟩⟩
 ·simp only at i0 i1 i2 hlt ⊢;have hlt:=of_decide_eq_true hlt;have ht:=bo ((0,0):bk) i0 hlt;have hl:o.length=i.toNat:=by rw [i2]; simp; omega
  rw [ht,List.map_append,← i2];unfold aA;simp only [ak,List.length_singleton];exact ⟨i0,hlt,by omega,by omega,⟨by omega,by omega,by first | rfl | trivial⟩,by omega⟩
 ·simp only at i0 i1 i2 hge ⊢;rw [bF (of_decide_eq_false hge)] at i2;exact ⟨i2,trivial⟩
theorem jL:AR.ok Tryz.prog 65:=aF (ann:=CP) aq Tryz.func65 (by kernel_rfl) xY
def HT:Nat→Option LoopGen
 | 3=>some { rd:=[.dat 17 (.arr bC),.own 3 3 ty_I],A:=fun ((h,l0):List bW×List Int)=>{ cs:=[.own 3 3 ty_I,.dat 19 ty_I],inv:=fun ((o,i):List Int×Int)=>0≤i∧i≤h.length∧o=l0++eK (h.take i.toNat),mu:=fun ((_,i):List Int×Int)=>(h.length - i).toNat } }
 | _=>none
def Gz:Spec:={ Ts:=[aE],Rs:=[.own 3 ty_I],pre:=fun (s:an)=>s.2.1.length≤32∧s.2.2.1.length≤16∧s.2.2.2.length≤16,F:=ap }
def wX:Prop :=
  ∀ (x:List Int×List Int×List (Int×Int)×List (Int×Bool×Int)),((x.1.length * 8≤aA∧∀ (x_1:Int),x_1∈x.1→ak .u64 x_1)∧(x.2.1.length * 8≤aA∧∀ (x_1:Int),x_1∈x.2.1→ak .i64 x_1)∧(x.2.2.1.length * (8+8)≤aA∧∀ (x_1:Int×Int),x_1∈x.2.2.1→ak .i64 x_1.1∧ak .i64 x_1.2)∧x.2.2.2.length * (8+(8+8))≤aA∧∀ (x_1:Int×Bool×Int),x_1∈x.2.2.2→ak .i64 x_1.1∧True∧ak .i64 x_1.2.2)→x.2.1.length≤32∧x.2.2.1.length≤16∧x.2.2.2.length≤16→True∧((0:Int)≤0∧0≤(↑x.2.2.2.length:Int)∧(bD x.2.1 (↑x.1.length:Int)).1=(bD x.2.1 (↑x.1.length:Int)).1++eK (List.take (Int.toNat 0) x.2.2.2))∧∀ (x_1:List Int×Int),0≤x_1.2∧x_1.2≤(↑x.2.2.2.length:Int)∧x_1.1=(bD x.2.1 (↑x.1.length:Int)).1++eK (List.take x_1.2.toNat x.2.2.2)→(decide (x_1.2<(↑x.2.2.2.length:Int))=true→0≤x_1.2∧x_1.2<(↑x.2.2.2.length:Int)∧((x.2.2.2.getD x_1.2.toNat (0,false,0)).2.1=true→(x_1.1.length+[(x.2.2.2.getD x_1.2.toNat (0,false,0)).2.2].length) * 8≤aA∧ak .i64 (x_1.2+1)∧(0≤x_1.2+1∧x_1.2+1≤(↑x.2.2.2.length:Int)∧x_1.1++[(x.2.2.2.getD x_1.2.toNat (0,false,0)).2.2]=(bD x.2.1 (↑x.1.length:Int)).1++eK (List.take (x_1.2+1).toNat x.2.2.2))∧((↑x.2.2.2.length:Int) - (x_1.2+1)).toNat<((↑x.2.2.2.length:Int) - x_1.2).toNat)∧((x.2.2.2.getD x_1.2.toNat (0,false,0)).2.1=false→ak .i64 (x_1.2+1)∧(0≤x_1.2+1∧x_1.2+1≤(↑x.2.2.2.length:Int)∧x_1.1=(bD x.2.1 (↑x.1.length:Int)).1++eK (List.take (x_1.2+1).toNat x.2.2.2))∧((↑x.2.2.2.length:Int) - (x_1.2+1)).toNat<((↑x.2.2.2.length:Int) - x_1.2).toNat))∧(decide (x_1.2<(↑x.2.2.2.length:Int))=false→True∧[x_1.1,List.map (fun (x:bk)=>x.1) x.2.2.1].flatten.length * 8≤aA∧True∧True∧fH (eb [x_1.1,List.map (fun (x:bk)=>x.1) x.2.2.1].flatten)=ap x∧True)
theorem Dh:wX:=by
 unfold wX;intro ⟨a,r,p,h⟩ _ ⟨h1,h2,h3⟩;simp only at h1 h2 h3 ⊢;have hF:ap (a,r,p,h)=fH (eb ((bD r a.length).1++eK h++p.map (·.1))):=rfl;have hrl:=jV r a.length;generalize (bD r a.length).1=l0 at *;refine ⟨trivial,⟨by omega,by omega,by simp [eK]⟩,fun ⟨o,i⟩ ⟨i0,i1,i2⟩=>⟨fun hlt=>?_,fun hge=>?_⟩⟩
 ·simp only at i0 i1 i2 hlt ⊢;have hlt:=of_decide_eq_true hlt;have ht:=bo ((0,false,0):bW) i0 hlt
  have hl:o.length≤32+i.toNat:=by
   have:=i9 (h.take i.toNat);rw [List.length_take] at this;rw [i2,List.length_append]; omega
  rw [ht,tT];generalize h.getD i.toNat (0,false,0)=x at *;unfold aA;simp only [ak,List.length_singleton];refine ⟨i0,hlt,fun hx=>?_,fun hx=>?_⟩
  ·rw [if_pos hx,← List.append_assoc,← i2];exact ⟨by omega,by omega,⟨by omega,by omega,by first | rfl | trivial⟩,by omega⟩
  ·rw [if_neg (by rw [hx]; simp),← i2];exact ⟨by omega,⟨by omega,by omega,by first | rfl | trivial⟩,by omega⟩
 ·simp only at i0 i1 i2 hge ⊢;rw [bF (of_decide_eq_false hge)] at i2;have hl:=i9 h;have hc:[o,p.map (·.1)].flatten=l0++eK h++p.map (·.1):=by rw [i2]; simp
  rw [hc,hF];unfold aA;simp only [List.length_append,List.length_map];exact ⟨trivial,by omega,trivial,trivial,by first | rfl | trivial,trivial⟩
theorem pY:Gz.ok Tryz.prog 84:=aF (ann:=HT) (ae zk (ae jL (ae m4 (kD tU (kD rH aq))))) Tryz.func84 (by kernel_rfl) Dh
def EV:Nat→Option LoopGen
 | 2=>some { rd:=[.dat 24 (.arr ty_I)],A:=fun (l:List Int)=>{ cs:=[.dat 26 ty_I],inv:=fun (i:Int)=>0≤i∧i≤l.length∧∀ x∈l.take i.toNat,x=0,mu:=fun (i:Int)=>(l.length - i).toNat } }
 | 8=>some { rd:=[.own 35 3 ty_I,.box 1 aE],A:=fun ((l,s):List Int×an)=>{ cs:=[.dat 37 ty_I],inv:=fun (i:Int)=>0≤i∧i≤l.length∧∀ x∈l.take i.toNat,isB (aa s.1).1 x=true,mu:=fun (i:Int)=>(l.length - i).toNat } }
 | _=>none
def DN:Spec:={ Ts:=[aE],Rs:=[.dat ty_I],pre:=fun _=>True,F:=aC }
def tt:Prop :=
  ∀ (x:List Int×List Int×List (Int×Int)×List (Int×Bool×Int)),((x.1.length * 8≤aA∧∀ (x_1:Int),x_1∈x.1→ak .u64 x_1)∧(x.2.1.length * 8≤aA∧∀ (x_1:Int),x_1∈x.2.1→ak .i64 x_1)∧(x.2.2.1.length * (8+8)≤aA∧∀ (x_1:Int×Int),x_1∈x.2.2.1→ak .i64 x_1.1∧ak .i64 x_1.2)∧x.2.2.2.length * (8+(8+8))≤aA∧∀ (x_1:Int×Bool×Int),x_1∈x.2.2.2→ak .i64 x_1.1∧True∧ak .i64 x_1.2.2)→True→True∧True∧True∧True∧((0:Int)≤0∧0≤(↑[(au x.1).2.2,aH x.2.1 (↑x.1.length:Int),bR x.2.2.1,aO x.2.2.2].length:Int)∧∀ (x_1:Int),x_1∈List.take (Int.toNat 0) [(au x.1).2.2,aH x.2.1 (↑x.1.length:Int),bR x.2.2.1,aO x.2.2.2]→x_1=0)∧∀ (x_1:Int),(0≤x_1∧x_1≤(↑[(au x.1).2.2,aH x.2.1 (↑x.1.length:Int),bR x.2.2.1,aO x.2.2.2].length:Int)∧∀ (x_2:Int),x_2∈List.take x_1.toNat [(au x.1).2.2,aH x.2.1 (↑x.1.length:Int),bR x.2.2.1,aO x.2.2.2]→x_2=0)→(decide (x_1<(↑[(au x.1).2.2,aH x.2.1 (↑x.1.length:Int),bR x.2.2.1,aO x.2.2.2].length:Int))=true→0≤x_1∧x_1<(↑[(au x.1).2.2,aH x.2.1 (↑x.1.length:Int),bR x.2.2.1,aO x.2.2.2].length:Int)∧(decide ([(au x.1).2.2,aH x.2.1 (↑x.1.length:Int),bR x.2.2.1,aO x.2.2.2].getD x_1.toNat (0:Int)≠0)=true→[(au x.1).2.2,aH x.2.1 (↑x.1.length:Int),bR x.2.2.1,aO x.2.2.2].getD x_1.toNat 0=aC x∧True)∧(decide ([(au x.1).2.2,aH x.2.1 (↑x.1.length:Int),bR x.2.2.1,aO x.2.2.2].getD x_1.toNat (0:Int)≠0)=false→ak .i64 (x_1+1)∧(0≤x_1+1∧x_1+1≤(↑[(au x.1).2.2,aH x.2.1 (↑x.1.length:Int),bR x.2.2.1,aO x.2.2.2].length:Int)∧∀ (x_2:Int),x_2∈List.take (x_1+1).toNat [(au x.1).2.2,aH x.2.1 (↑x.1.length:Int),bR x.2.2.1,aO x.2.2.2]→x_2=0)∧((↑[(au x.1).2.2,aH x.2.1 (↑x.1.length:Int),bR x.2.2.1,aO x.2.2.2].length:Int) - (x_1+1)).toNat<((↑[(au x.1).2.2,aH x.2.1 (↑x.1.length:Int),bR x.2.2.1,aO x.2.2.2].length:Int) - x_1).toNat))∧(decide (x_1<(↑[(au x.1).2.2,aH x.2.1 (↑x.1.length:Int),bR x.2.2.1,aO x.2.2.2].length:Int))=false→(x.2.1.length≤32∧x.2.2.1.length≤16∧x.2.2.2.length≤16)∧((0:Int)≤0∧0≤(↑(ap x).length:Int)∧∀ (x_2:Int),x_2∈List.take (Int.toNat 0) (ap x)→isB (aa x.1).1 x_2=true)∧∀ (x_2:Int),(0≤x_2∧x_2≤(↑(ap x).length:Int)∧∀ (x_3:Int),x_3∈List.take x_2.toNat (ap x)→isB (aa x.1).1 x_3=true)→(decide (x_2<(↑(ap x).length:Int))=true→0≤x_2∧x_2<(↑(ap x).length:Int)∧x_2.toNat<(ap x).length∧True∧((decide ((db x.1 ((ap x).getD x_2.toNat 0)).2≠0)||(db x.1 ((ap x).getD x_2.toNat 0)).1.2.2.2)=true→5=aC x∧True)∧((decide ((db x.1 ((ap x).getD x_2.toNat 0)).2≠0)||(db x.1 ((ap x).getD x_2.toNat 0)).1.2.2.2)=false→ak .i64 (x_2+1)∧(0≤x_2+1∧x_2+1≤(↑(ap x).length:Int)∧∀ (x_3:Int),x_3∈List.take (x_2+1).toNat (ap x)→isB (aa x.1).1 x_3=true)∧((↑(ap x).length:Int) - (x_2+1)).toNat<((↑(ap x).length:Int) - x_2).toNat))∧(decide (x_2<(↑(ap x).length:Int))=false→0=aC x∧True))
theorem Aq:tt:=by
 unfold tt;intro s hx _;have hF:aC s=if (au s.1).2.2≠0 then (au s.1).2.2 else if aH s.2.1 s.1.length≠0 then aH s.2.1 s.1.length else if bR s.2.2.1≠0 then bR s.2.2.1 else if aO s.2.2.2≠0 then aO s.2.2.2 else ba s.1 (bq s):=rfl
 have hsm:=fun a b c=>jF (s:=s) a b c
 have hmem:=fun a x=>gG (s:=s) a (x:=x)
 have hfree:=fun a x=>K8 (a:=s.1) a x
 have hfl:(ap s).length≤(ap s).length:=Nat.le_refl _
 have hlen:(au s.1).2.2=0→aH s.2.1 s.1.length=0→bR s.2.2.1=0→aO s.2.2.2=0→(ap s).length≤64:=fun _ a b c=>by
  obtain ⟨q1,q2,q3⟩:=hsm a b c;have e1:=jV s.2.1 s.1.length;have e2:=i9 s.2.2.2;have e3:(ap s).length≤(eb ((bD s.2.1 s.1.length).1++eK s.2.2.2++s.2.2.1.map (·.1))).length:=jS _;rw [iL] at e3;simp only [List.length_append,List.length_map] at e3;omega
 generalize hc0:(au s.1).2.2=c0 at *;generalize aH s.2.1 s.1.length=c1 at *;generalize bR s.2.2.1=c2 at *;generalize aO s.2.2.2=c3 at *;have hl4:([c0,c1,c2,c3].length:Int)=4:=rfl;refine ⟨trivial,trivial,trivial,trivial,⟨by omega,by omega,fun x hx=>by simp at hx⟩,fun i ⟨i0,i1,i2⟩=>⟨fun hlt=>?_,fun hge=>?_⟩⟩
 ·have hlt:=of_decide_eq_true hlt;have ht:=bo (0:Int) i0 hlt;refine ⟨i0,hlt,fun hn=>⟨?_,trivial⟩,fun hn=>⟨by simp only [ak]; omega,⟨by omega,by omega,fun x hx=>?_⟩,by omega⟩⟩
  ·have hn:=of_decide_eq_true hn;rw [hF];have h4:i=0∨i=1∨i=2∨i=3:=by omega
   rcases h4 with rfl | rfl | rfl | rfl
   ·exact (if_pos hn).symm
   ·have e0:=i2 c0 (by simp);rw [if_neg (by omega)];exact (if_pos hn).symm
   ·have e0:=i2 c0 (by simp);have e1:=i2 c1 (by simp);rw [if_neg (by omega),if_neg (by omega)];exact (if_pos hn).symm
   ·have e0:=i2 c0 (by simp);have e1:=i2 c1 (by simp);have e2:=i2 c2 (by simp);rw [if_neg (by omega),if_neg (by omega),if_neg (by omega)];exact (if_pos hn).symm
  ·have hn:[c0,c1,c2,c3].getD i.toNat 0=0:=by simpa using of_decide_eq_false hn
   rw [ht] at hx;rcases List.mem_append.1 hx with hx | hx
   ·exact i2 x hx
   ·rw [List.mem_singleton.1 hx,hn]
 ·have hge:=of_decide_eq_false hge;rw [bF hge] at i2;have e0:=i2 c0 (by simp);have e1:=i2 c1 (by simp);have e2:=i2 c2 (by simp);have e3:=i2 c3 (by simp);have hS:aC s=ba s.1 (bq s):=by rw [hF,if_neg (by omega),if_neg (by omega),if_neg (by omega),if_neg (by omega)]
  have hfr:=hfree e0;have hln:=hlen e0 e1 e2 e3;have hmm:=hmem e1
  have hFF:ba s.1 (bq s)=if (bq s).all (isB (aa s.1).1)=true then 0 else 5:=by
   unfold ba;rw [if_neg (by omega)]
  rw [hS,hFF];refine ⟨hsm e1 e2 e3,⟨by omega,by omega,fun x hx=>by simp at hx⟩,fun j ⟨j0,j1,j2⟩=>⟨fun hj=>?_,fun hj=>?_⟩⟩
  ·have hj:=of_decide_eq_true hj;have ht:=bo (0:Int) j0 hj;have hm:=aI (0:Int) j0 hj;rw [hfr,ht];generalize (ap s).getD j.toNat 0=y at *;refine ⟨j0,hj,by omega,trivial,fun hn=>⟨?_,trivial⟩,fun hn=>⟨by simp only [ak]; omega,⟨by omega,by omega,fun x hx=>?_⟩,by omega⟩⟩
   ·rw [if_neg (fun hall=>?_)];have:=List.all_eq_true.1 hall y ((hmm y).1 hm);rw [this] at hn;cases hn
   ·rcases List.mem_append.1 hx with hx | hx
    ·exact j2 x hx
    ·rw [List.mem_singleton.1 hx];simpa using hn
  ·have hj:=of_decide_eq_false hj;rw [bF hj] at j2;refine ⟨?_,trivial⟩;rw [if_pos (List.all_eq_true.2 fun x hx=>j2 x ((hmm x).2 hx))]
theorem fD:DN.ok Tryz.prog 42:=aF (ann:=EV) (ae iN (ae kK (ae rB (ae iQ (ae pY (ae mv aq)))))) Tryz.func42 (by kernel_rfl) Aq
def wA:Nat→Option LoopGen
 | 3=>some { rd:=[.dat 11 (.arr ty_I)],A:=fun (r:List Int)=>{ cs:=[.own 3 3 ty_I,.dat 13 ty_I],inv:=fun ((o,i):List Int×Int)=>0≤i∧i≤r.length∧o=(r.take i.toNat).filter fun v=>decide (0≤v),mu:=fun ((_,i):List Int×Int)=>(r.length - i).toNat } }
 | 9=>some { rd:=[.dat 25 (.arr bC),.own 3 3 ty_I],A:=fun ((h,l0):List bW×List Int)=>{ cs:=[.own 3 3 ty_I,.dat 27 ty_I],inv:=fun ((o,i):List Int×Int)=>0≤i∧i≤h.length∧o=l0++eK (h.take i.toNat),mu:=fun ((_,i):List Int×Int)=>(h.length - i).toNat } }
 | 15=>some { rd:=[.dat 40 (.arr cz),.own 3 3 ty_I],A:=fun ((p,l0):List bk×List Int)=>{ cs:=[.own 3 3 ty_I,.dat 42 ty_I],inv:=fun ((o,i):List Int×Int)=>0≤i∧i≤p.length∧o=l0++(p.take i.toNat).map (·.1),mu:=fun ((_,i):List Int×Int)=>(p.length - i).toNat } }
 | _=>none
def vJ:Spec:={ Ts:=[aE],Rs:=[.own 3 ty_I],pre:=fun (s:an)=>s.2.1.length≤32∧s.2.2.1.length≤16∧s.2.2.2.length≤16,F:=fun (s:an)=>bf (bq s) 256 }
def mO:Prop :=
  ∀ (x:List Int×List Int×List (Int×Int)×List (Int×Bool×Int)),((x.1.length * 8≤aA∧∀ (x_1:Int),x_1∈x.1→ak .u64 x_1)∧(x.2.1.length * 8≤aA∧∀ (x_1:Int),x_1∈x.2.1→ak .i64 x_1)∧(x.2.2.1.length * (8+8)≤aA∧∀ (x_1:Int×Int),x_1∈x.2.2.1→ak .i64 x_1.1∧ak .i64 x_1.2)∧x.2.2.2.length * (8+(8+8))≤aA∧∀ (x_1:Int×Bool×Int),x_1∈x.2.2.2→ak .i64 x_1.1∧True∧ak .i64 x_1.2.2)→x.2.1.length≤32∧x.2.2.1.length≤16∧x.2.2.2.length≤16→((0:Int)≤0∧0≤(↑x.2.1.length:Int)∧([]:List Int)=List.filter (fun (v:Int)=>decide (0≤v)) (List.take (Int.toNat 0) x.2.1))∧∀ (x_1:List Int×Int),0≤x_1.2∧x_1.2≤(↑x.2.1.length:Int)∧x_1.1=List.filter (fun (v:Int)=>decide (0≤v)) (List.take x_1.2.toNat x.2.1)→(decide (x_1.2<(↑x.2.1.length:Int))=true→0≤x_1.2∧x_1.2<(↑x.2.1.length:Int)∧(decide (0≤x.2.1.getD x_1.2.toNat 0)=true→(x_1.1.length+[x.2.1.getD x_1.2.toNat 0].length) * 8≤aA∧ak .i64 (x_1.2+1)∧(0≤x_1.2+1∧x_1.2+1≤(↑x.2.1.length:Int)∧x_1.1++[x.2.1.getD x_1.2.toNat 0]=List.filter (fun (v:Int)=>decide (0≤v)) (List.take (x_1.2+1).toNat x.2.1))∧((↑x.2.1.length:Int) - (x_1.2+1)).toNat<((↑x.2.1.length:Int) - x_1.2).toNat)∧(decide (0≤x.2.1.getD x_1.2.toNat 0)=false→ak .i64 (x_1.2+1)∧(0≤x_1.2+1∧x_1.2+1≤(↑x.2.1.length:Int)∧x_1.1=List.filter (fun (v:Int)=>decide (0≤v)) (List.take (x_1.2+1).toNat x.2.1))∧((↑x.2.1.length:Int) - (x_1.2+1)).toNat<((↑x.2.1.length:Int) - x_1.2).toNat))∧(decide (x_1.2<(↑x.2.1.length:Int))=false→((0:Int)≤0∧0≤(↑x.2.2.2.length:Int)∧x_1.1=x_1.1++eK (List.take (Int.toNat 0) x.2.2.2))∧∀ (x_2:List Int×Int),0≤x_2.2∧x_2.2≤(↑x.2.2.2.length:Int)∧x_2.1=x_1.1++eK (List.take x_2.2.toNat x.2.2.2)→(decide (x_2.2<(↑x.2.2.2.length:Int))=true→0≤x_2.2∧x_2.2<(↑x.2.2.2.length:Int)∧((x.2.2.2.getD x_2.2.toNat (0,false,0)).2.1=true→(x_2.1.length+[(x.2.2.2.getD x_2.2.toNat (0,false,0)).2.2].length) * 8≤aA∧ak .i64 (x_2.2+1)∧(0≤x_2.2+1∧x_2.2+1≤(↑x.2.2.2.length:Int)∧x_2.1++[(x.2.2.2.getD x_2.2.toNat (0,false,0)).2.2]=x_1.1++eK (List.take (x_2.2+1).toNat x.2.2.2))∧((↑x.2.2.2.length:Int) - (x_2.2+1)).toNat<((↑x.2.2.2.length:Int) - x_2.2).toNat)∧((x.2.2.2.getD x_2.2.toNat (0,false,0)).2.1=false→ak .i64 (x_2.2+1)∧(0≤x_2.2+1∧x_2.2+1≤(↑x.2.2.2.length:Int)∧x_2.1=x_1.1++eK (List.take (x_2.2+1).toNat x.2.2.2))∧((↑x.2.2.2.length:Int) - (x_2.2+1)).toNat<((↑x.2.2.2.length:Int) - x_2.2).toNat))∧(decide (x_2.2<(↑x.2.2.2.length:Int))=false→((0:Int)≤0∧0≤(↑x.2.2.1.length:Int)∧x_2.1=x_2.1++List.map (fun (x:bk)=>x.1) (List.take (Int.toNat 0) x.2.2.1))∧∀ (x_3:List Int×Int),0≤x_3.2∧x_3.2≤(↑x.2.2.1.length:Int)∧x_3.1=x_2.1++List.map (fun (x:bk)=>x.1) (List.take x_3.2.toNat x.2.2.1)→(decide (x_3.2<(↑x.2.2.1.length:Int))=true→0≤x_3.2∧x_3.2<(↑x.2.2.1.length:Int)∧(x_3.1.length+[(x.2.2.1.getD x_3.2.toNat (0,0)).1].length) * 8≤aA∧ak .i64 (x_3.2+1)∧(0≤x_3.2+1∧x_3.2+1≤(↑x.2.2.1.length:Int)∧x_3.1++[(x.2.2.1.getD x_3.2.toNat (0,0)).1]=x_2.1++List.map (fun (x:bk)=>x.1) (List.take (x_3.2+1).toNat x.2.2.1))∧((↑x.2.2.1.length:Int) - (x_3.2+1)).toNat<((↑x.2.2.1.length:Int) - x_3.2).toNat)∧(decide (x_3.2<(↑x.2.2.1.length:Int))=false→True∧bf x_3.1 256=bf (bq x) 256∧True)))
theorem sF:mO:=by
 unfold mO;intro ⟨a,r,p,h⟩ _ ⟨h1,h2,h3⟩;simp only at h1 h2 h3 ⊢;have hN:bq (a,r,p,h)=(r.filter fun v=>decide (0≤v))++eK h++p.map (·.1):=rfl;rw [hN];refine ⟨⟨by omega,by omega,by simp⟩,fun ⟨o,i⟩ ⟨i0,i1,i2⟩=>⟨fun hlt=>?_,fun hge=>?_⟩⟩
 ·simp only at i0 i1 i2 hlt ⊢;have hlt:=of_decide_eq_true hlt;have ht:=bo (0:Int) i0 hlt
  have hl:o.length≤i.toNat:=by
   have:=List.length_filter_le (fun v:Int=>decide (0≤v)) (r.take i.toNat);rw [List.length_take] at this;rw [i2]; omega
  rw [ht,List.filter_append,← i2];generalize r.getD i.toNat 0=x at *;unfold aA;simp only [ak,List.length_singleton];refine ⟨i0,hlt,fun hx=>?_,fun hx=>?_⟩
  ·rw [List.filter_cons_of_pos (p:=fun v:Int=>decide (0≤v)) hx,List.filter_nil];exact ⟨by omega,by omega,⟨by omega,by omega,by first | rfl | trivial⟩,by omega⟩
  ·rw [List.filter_cons_of_neg (p:=fun v:Int=>decide (0≤v)) (by rw [hx]; simp),List.filter_nil,List.append_nil];exact ⟨by omega,⟨by omega,by omega,by first | rfl | trivial⟩,by omega⟩
 simp only at i0 i1 i2 hge ⊢;rw [bF (of_decide_eq_false hge)] at i2
 have hol:o.length≤32:=by
  have:=List.length_filter_le (fun v:Int=>decide (0≤v)) r;rw [i2]; omega
 rw [← i2];refine ⟨⟨by omega,by omega,by simp [eK]⟩,fun ⟨o2,k⟩ ⟨k0,k1,k2⟩=>⟨fun hlt=>?_,fun hge=>?_⟩⟩
 ·simp only at k0 k1 k2 hlt ⊢;have hlt:=of_decide_eq_true hlt;have ht:=bo ((0,false,0):bW) k0 hlt
  have hl:o2.length≤32+k.toNat:=by
   have:=i9 (h.take k.toNat);rw [List.length_take] at this;rw [k2,List.length_append]; omega
  rw [ht,tT];generalize h.getD k.toNat (0,false,0)=x at *;unfold aA;simp only [ak,List.length_singleton];refine ⟨k0,hlt,fun hx=>?_,fun hx=>?_⟩
  ·rw [if_pos hx,← List.append_assoc,← k2];exact ⟨by omega,by omega,⟨by omega,by omega,by first | rfl | trivial⟩,by omega⟩
  ·rw [if_neg (by rw [hx]; simp),← k2];exact ⟨by omega,⟨by omega,by omega,by first | rfl | trivial⟩,by omega⟩
 simp only at k0 k1 k2 hge ⊢;rw [bF (of_decide_eq_false hge)] at k2
 have hol2:o2.length≤48:=by
  have:=i9 h;rw [k2,List.length_append]; omega
 rw [← k2];refine ⟨⟨by omega,by omega,by simp⟩,fun ⟨o3,m⟩ ⟨m0,m1,m2⟩=>⟨fun hlt=>?_,fun hge=>?_⟩⟩
 ·simp only at m0 m1 m2 hlt ⊢;have hlt:=of_decide_eq_true hlt;have ht:=bo ((0,0):bk) m0 hlt;have hl:o3.length≤48+m.toNat:=by rw [m2,List.length_append,List.length_map,List.length_take]; omega
  rw [ht,List.map_append,← List.append_assoc,← m2];unfold aA;simp only [ak,List.length_singleton];exact ⟨m0,hlt,by omega,by omega,⟨by omega,by omega,by first | rfl | trivial⟩,by omega⟩
 ·simp only at m0 m1 m2 hge ⊢;rw [bF (of_decide_eq_false hge)] at m2;rw [m2];exact ⟨trivial,by first | rfl | trivial,trivial⟩
theorem mY:vJ.ok Tryz.prog 49:=aF (ann:=wA) (ae tV aq) Tryz.func49 (by kernel_rfl) sF
def sY:Spec:={ Ts:=[aE],Rs:=[.dat ty_I],pre:=fun _=>True,F:=aC }
def lE:Prop :=
  ∀ (x:List Int×List Int×List (Int×Int)×List (Int×Bool×Int)),((x.1.length * 8≤aA∧∀ (x_1:Int),x_1∈x.1→ak .u64 x_1)∧(x.2.1.length * 8≤aA∧∀ (x_1:Int),x_1∈x.2.1→ak .i64 x_1)∧(x.2.2.1.length * (8+8)≤aA∧∀ (x_1:Int×Int),x_1∈x.2.2.1→ak .i64 x_1.1∧ak .i64 x_1.2)∧x.2.2.2.length * (8+(8+8))≤aA∧∀ (x_1:Int×Bool×Int),x_1∈x.2.2.2→ak .i64 x_1.1∧True∧ak .i64 x_1.2.2)→True→True∧(decide (fK x.1≠0)=true→fK x.1=aC x∧True)∧(decide (fK x.1≠0)=false→True∧(decide (aH x.2.1 (↑x.1.length:Int)≠0)=true→aH x.2.1 (↑x.1.length:Int)=aC x∧True)∧(decide (aH x.2.1 (↑x.1.length:Int)≠0)=false→True∧(decide (bR x.2.2.1≠0)=true→bR x.2.2.1=aC x∧True)∧(decide (bR x.2.2.1≠0)=false→True∧(decide (aO x.2.2.2≠0)=true→aO x.2.2.2=aC x∧True)∧(decide (aO x.2.2.2≠0)=false→(x.2.1.length≤32∧x.2.2.1.length≤16∧x.2.2.2.length≤16)∧True∧rN x.1 [bf (bq x) 256]=aC x∧True))))
theorem rX:lE:=by
 unfold lE;intro s ⟨⟨_,hw⟩,_⟩ _;have hF:aC s=if (au s.1).2.2≠0 then (au s.1).2.2 else if aH s.2.1 s.1.length≠0 then aH s.2.1 s.1.length else if bR s.2.2.1≠0 then bR s.2.2.1 else if aO s.2.2.2≠0 then aO s.2.2.2 else ba s.1 (bq s):=rfl
 rw [Cq hw,rV hw];refine ⟨trivial,fun h0=>⟨?_,trivial⟩,fun h0=>⟨trivial,fun h1=>⟨?_,trivial⟩,fun h1=>⟨trivial,fun h2=>⟨?_,trivial⟩,fun h2=>⟨trivial,fun h3=>⟨?_,trivial⟩,fun h3=>?_⟩⟩⟩⟩
 ·rw [hF,if_pos (of_decide_eq_true h0)]
 all_goals have h0:(au s.1).2.2=0:=by simpa using of_decide_eq_false h0
 ·rw [hF,if_neg (by omega),if_pos (of_decide_eq_true h1)]
 all_goals have h1:aH s.2.1 s.1.length=0:=by simpa using of_decide_eq_false h1
 ·rw [hF,if_neg (by omega),if_neg (by omega),if_pos (of_decide_eq_true h2)]
 all_goals have h2:bR s.2.2.1=0:=by simpa using of_decide_eq_false h2
 ·rw [hF,if_neg (by omega),if_neg (by omega),if_neg (by omega),if_pos (of_decide_eq_true h3)]
 have h3:aO s.2.2.2=0:=by simpa using of_decide_eq_false h3
 refine ⟨jF h1 h2 h3,trivial,?_,trivial⟩;rw [hF,if_neg (by omega),if_neg (by omega),if_neg (by omega),if_neg (by omega)];have hr:=rJ h1 h2 h3
 have he:(bf (bq s) 256).all (isB (aa s.1).1)=(bq s).all (isB (aa s.1).1):=by
  apply Bool.eq_iff_iff.2;rw [List.all_eq_true,List.all_eq_true];constructor
  ·intro h x hx;exact h x (g7.2 ⟨(hr x hx).1,by have:=(hr x hx).2; omega,hx⟩)
  ·intro h x hx;exact h x (g7.1 hx).2.2
 unfold ba;rw [he]
theorem lI:sY.ok Tryz.prog 9:=aF (ann:=cw) (ae lJ (ae Hg (ae zq (ae v7 (ae mY (ae I7 aq)))))) Tryz.func9 (by kernel_rfl) rX
def vL:Spec:={ Ts:=[aE,aE],Rs:=[.dat .bool],pre:=fun _=>True,F:=fun (x:an×an)=>decide (x.1=x.2) }
def mQ:Prop :=
  ∀ (x:(List Int×List Int×List (Int×Int)×List (Int×Bool×Int))×List Int×List Int×List (Int×Int)×List (Int×Bool×Int)),(((x.1.1.length * 8≤aA∧∀ (x_1:Int),x_1∈x.1.1→ak .u64 x_1)∧(x.1.2.1.length * 8≤aA∧∀ (x_1:Int),x_1∈x.1.2.1→ak .i64 x_1)∧(x.1.2.2.1.length * (8+8)≤aA∧∀ (x_1:Int×Int),x_1∈x.1.2.2.1→ak .i64 x_1.1∧ak .i64 x_1.2)∧x.1.2.2.2.length * (8+(8+8))≤aA∧∀ (x_1:Int×Bool×Int),x_1∈x.1.2.2.2→ak .i64 x_1.1∧True∧ak .i64 x_1.2.2)∧(x.2.1.length * 8≤aA∧∀ (x_1:Int),x_1∈x.2.1→ak .u64 x_1)∧(x.2.2.1.length * 8≤aA∧∀ (x_1:Int),x_1∈x.2.2.1→ak .i64 x_1)∧(x.2.2.2.1.length * (8+8)≤aA∧∀ (x_1:Int×Int),x_1∈x.2.2.2.1→ak .i64 x_1.1∧ak .i64 x_1.2)∧x.2.2.2.2.length * (8+(8+8))≤aA∧∀ (x_1:Int×Bool×Int),x_1∈x.2.2.2.2→ak .i64 x_1.1∧True∧ak .i64 x_1.2.2)→True→True∧(decide (x.1.1=x.2.1)=true→True)∧((decide (x.1.1=x.2.1)&&decide (x.1.2.1=x.2.2.1))=true→True)∧((decide (x.1.1=x.2.1)&&decide (x.1.2.1=x.2.2.1)&&decide (x.1.2.2.1=x.2.2.2.1))=true→True)∧(decide (x.1.1=x.2.1)&&decide (x.1.2.1=x.2.2.1)&&decide (x.1.2.2.1=x.2.2.2.1)&&decide (x.1.2.2.2=x.2.2.2.2))=decide (x.1=x.2)∧True
theorem sH:mQ:=by
 unfold mQ;intro ⟨⟨a1,a2,a3,a4⟩,b1,b2,b3,b4⟩ _ _;refine ⟨trivial,fun _=>trivial,fun _=>trivial,fun _=>trivial,?_,trivial⟩;apply Bool.eq_iff_iff.2;simp only [Bool.and_eq_true,decide_eq_true_eq,Prod.mk.injEq]
 grind
theorem vZ:vL.ok Tryz.prog 10:=aF (ann:=cw) (ae vY (ae zm (ae BV (ae zj aq)))) Tryz.func10 (by kernel_rfl) sH
end
section
open Go
def aK:an:=([],[],[],[])
def cH (s:an):List Int:=s.2.2.1.map (·.1)
def ew (s:an):List Int:=be s.1 (ap s++cH s)
def lN (s:an):List Int:=(ew s).map (aG (aa s.1).1)
def kC (s:an) (x:Int):Int:=(ar (ew s) (lN s) (cH s)).getD (bG (ew s) x).toNat 0
def cU (s:an):List Int:=(kl s.1 (ew s) (cH s)).1
def fl (s:an) (v:Int):Int:=if 0≤v then kC s v else v
def ia (s:an) (h:bW):bW:=if h.2.1=true then (h.1,h.2.1,kC s h.2.2) else h
def bc (s:an):an:=(cU s,s.2.1.map (fl s),s.2.2.1,s.2.2.2.map (ia s))
def Jv (s:an):Int:=ep (aU false [] (aa (cU s)).1)
def d5 (s:an):an×Int:=(bc s,Jv s)
structure Right (s:an):Prop where
 w:∀ x∈s.1,ak .u64 x
 chk:(au s.1).2.2=0
 root:aH s.2.1 s.1.length=0
 pin:bR s.2.2.1=0
 hand:aO s.2.2.2=0
 nam:∀ x∈bq s,isB (aa s.1).1 x=true
theorem iv {s:an} (hw:∀ x∈s.1,ak .u64 x) (h:aC s=0):Right s:=by
 unfold aC at h;split at h
 ·omega
 rename_i h0;split at h
 ·omega
 rename_i h1;split at h
 ·omega
 rename_i h2;split at h
 ·omega
 rename_i h3;exact ⟨hw,by omega,by omega,by omega,by omega,(dV h).2⟩
section
variable {s:an}
theorem Right.pinsRise (h:Right s):(cH s).Pairwise (·<·):=List.pairwise_map.2 (mo h.pin).2.1
theorem Right.pinsIn (h:Right s):∀ x∈cH s,x∈bq s:=fun x hx=>List.mem_append_right _ hx
theorem Right.froms (h:Right s):∀ x∈ap s++cH s,x∈bq s:=fun x hx=>by
 rcases List.mem_append.1 hx with hx | hx
 ·exact (gG h.root).1 hx
 ·exact h.pinsIn x hx
theorem Right.fault (h:Right s):ba s.1 (ap s++cH s)=0:=kS h.chk fun x hx=>h.nam x (h.froms x hx)
theorem Right.keep (h:Right s):bA (cH s)=true:=iA h.pinsRise
theorem Right.longs (h:Right s):am s.1 (ew s) (cH s)=(lN s,0):=rS h.w h.fault h.keep
theorem Right.plan (h:Right s):Plan s.1 (ew s) (cH s) (lN s):=by
 have:=ze (a:=s.1) (keep:=ew s) (pinned:=cH s) (by rw [h.longs]);rw [h.longs] at this;exact this
theorem Right.good (h:Right s) (to:List Int):((ew s).all fun x=>cn (ew s) to (a7 s.1 x))=true:=uO h.w h.fault to
theorem Right.clean (h:Right s):aw s.1 (ap s) (cH s)=(cU s,(ap s).map (kC s),0):=by
 unfold aw;rw [if_neg (by rw [h.fault]; simp),if_neg (by rw [h.keep]; simp),(l7 h.w h.fault h.keep).1];rfl
theorem Right.slid (h:Right s):cU s=kj s.1 (ew s) (ar (ew s) (lN s) (cH s)) (cH s) (lN s) (bV s.1.length (ew s) (lN s) (cH s)):=by
 have hg:=h.good (ar (ew s) ((ew s).map (aG (aa s.1).1)) (cH s));unfold cU kl;rw [if_pos hg];rfl
theorem Right.slidOK (h:Right s):(au (cU s)).2.2=0∧(cU s).length=s.1.length∧(aa (cU s)).1=ly s.1 (ew s) (cH s) (lN s):=by
 rw [h.slid,D4 h.plan (h.good _)];exact ⟨rfl,n0 _ h.plan,by rw [s8 _ h.plan]⟩
theorem Right.keepIn (h:Right s) {x:Int} (hx:x∈bq s):x∈ew s:=by
 obtain ⟨k1,k2⟩:=dV h.fault;exact (gw h.w k1 k2).2 (.base (List.mem_append_left _ ((gG h.root).2 hx)))
theorem Right.toIn (h:Right s) {x:Int} (hx:x∈bq s):0≤kC s x∧kC s x<s.1.length:=by
 have hp:=oR (h.keepIn hx);have hP:=h.plan;have hi:(bG (ew s) x).toNat<(ew s).length:=by omega
 unfold kC;rw [xl hi];have h1:=hP.le _ hi;have h2:=(cg (cH s) hP.pre _ (Nat.le_of_lt hi)).1;have h3:=hP.lg _ hi;obtain ⟨_,_,_,_,l5,l6⟩:=cI (hP.isb _ (ga hi));omega
theorem Right.nameIn (h:Right s) {x:Int} (hx:x∈bq s):0≤x∧x<s.1.length:=by
 obtain ⟨_,_,l3,l4,l5,l6⟩:=cI (h.nam x hx);omega
theorem Right.al (h:Right s):s.1.length≤256:=(b7 h.chk).1
theorem Right.reached (h:Right s):be s.1 (bf (bq s) 256)=ew s:=by
 have hr:=rJ h.root h.pin h.hand
 have hm:∀ x,x∈bf (bq s) 256 ↔ x∈bq s:=fun x=>by
  rw [g7];exact ⟨fun h=>h.2.2,fun hx=>⟨(hr x hx).1,by have:=(hr x hx).2; omega,hx⟩⟩
 obtain ⟨k1,k2⟩:=dV h.fault;refine ml (jk _ _) (jk _ _) fun x=>?_
 rw [gw h.w h.chk (fun y hy=>h.nam y ((hm y).1 hy)),ew,gw h.w k1 k2];exact ⟨fun hx=>hx.mono fun y hy=>.base (List.mem_append_left _ ((gG h.root).2 ((hm y).1 hy))),fun hx=>hx.mono fun y hy=>.base ((hm y).2 (h.froms y hy))⟩
theorem Right.fromOK (h:Right s):ba s.1 (bf (bq s) 256)=0:=kS h.chk fun x hx=>h.nam x (g7.1 hx).2.2
theorem Right.free (h:Right s):Jv s+((ew s).map (aG (aa s.1).1)).sum=s.1.length:=by
 obtain ⟨h1,h2,h3⟩:=h.slidOK;have h4:=Ju (b7 h1).2.2.2.1;unfold Jv;rw [← h2,← GU (pinned:=cH s) (long:=lN s) h.plan.isb,← h3];exact h4
end
def b9 (arr f:List Int) (g:Int→Int):List Int:=f.foldl (fun r x=>r.set x.toNat (g x)) arr
theorem jH (arr f:List Int) (x:Int) (g:Int→Int):b9 arr (f++[x]) g=(b9 arr f g).set x.toNat (g x):=by simp [b9]
theorem d8 (g:Int→Int):∀ (f arr:List Int),(b9 arr f g).length=arr.length
 | [],_=>rfl
 | x::f,arr=>by
  have:=d8 g f (arr.set x.toNat (g x));simp only [b9,List.foldl_cons] at this ⊢;rw [this,List.length_set]
theorem nn (g:Int→Int) {k:Int} (h0:0≤k):∀ (f arr:List Int),(∀ x∈f,0≤x)→k<arr.length→(b9 arr f g).getD k.toNat 0=if k∈f then g k else arr.getD k.toNat 0
 | [],arr,_,_=>by simp [b9]
 | x::f,arr,hf,hk=>by
  have ih:=nn g h0 f (arr.set x.toNat (g x)) (fun y hy=>hf y (List.mem_cons_of_mem _ hy)) (by rw [List.length_set]; exact hk);have hx:=hf x List.mem_cons_self;have e:b9 arr (x::f) g=b9 (arr.set x.toNat (g x)) f g:=rfl;rw [e,ih];by_cases h1:k∈f
  ·rw [if_pos h1,if_pos (List.mem_cons_of_mem _ h1)]
  ·rw [if_neg h1];by_cases h2:x=k
   ·subst h2;rw [if_pos List.mem_cons_self,List.getD_eq_getElem?_getD,List.getElem?_set,if_pos rfl,if_pos (by omega)];rfl
   ·rw [if_neg (by simp [h1,Ne.symm h2]),List.getD_eq_getElem?_getD,List.getElem?_set_ne (by omega),← List.getD_eq_getElem?_getD]
theorem nl (g:Int→Int) {v:Int}:∀ (f arr:List Int),v∈b9 arr f g→v∈arr∨∃ x∈f,v=g x
 | [],_,h=>.inl h
 | x::f,arr,h=>by
  rcases nl g f _ h with h | ⟨y,hy,e⟩
  ·rcases List.mem_or_eq_of_mem_set h with h | h
   ·exact .inl h
   ·exact .inr ⟨x,List.mem_cons_self,h⟩
  ·exact .inr ⟨y,List.mem_cons_of_mem _ hy,e⟩
section
variable {s:an}
theorem Right.swapRoots (h:Right s):bB s.2.1 s.1.length (b9 (List.replicate s.1.length 0) (ap s) (kC s))=(s.2.1.map (fl s),0):=by
 have hfm:=fun x=>(gG (s:=s) h.root (x:=x))
 unfold bB;rw [if_neg (by rw [h.root]; simp),if_neg (by rw [d8,List.length_replicate]; simp),if_neg]
 ·refine congrArg (·,(0:Int)) (List.map_congr_left fun v hv=>?_);unfold mH fl;by_cases h0:0≤v
  ·rw [if_pos h0,if_pos h0];have hn:v∈bq s:=List.mem_append_left _ (List.mem_append_left _ (List.mem_filter.2 ⟨hv,by simpa using h0⟩));rw [nn _ h0 _ _ (fun x hx=>(h.nameIn ((hfm x).1 hx)).1) (by rw [List.length_replicate]; exact (h.nameIn hn).2),if_pos ((hfm v).2 hn)]
  ·rw [if_neg h0,if_neg h0]
 ·intro hc;obtain ⟨v,hv,hb⟩:=List.any_eq_true.1 hc;rcases nl _ _ _ hv with hv | ⟨x,hx,rfl⟩
  ·have:=(List.mem_replicate.1 hv);have h2:=this.2;have h1:=this.1;subst h2;unfold ck at hb;simp only [Bool.not_eq_true',Bool.and_eq_false_iff,decide_eq_false_iff_not] at hb;omega
  ·have:=h.toIn ((hfm x).1 hx);unfold ck at hb;simp only [Bool.not_eq_true',Bool.and_eq_false_iff,decide_eq_false_iff_not] at hb;omega
theorem Right.swapHands (h:Right s):fX s.2.2.2 (b9 (List.replicate 256 0) (ap s) (kC s))=(s.2.2.2.map (ia s),0):=by
 have hfm:=fun x=>(gG (s:=s) h.root (x:=x))
 have hal:=h.al;unfold fX;rw [if_neg (by rw [h.hand]; simp),if_neg (by rw [d8,List.length_replicate]; simp),if_neg]
 ·refine congrArg (·,(0:Int)) (List.map_congr_left fun v hv=>?_);unfold dv ia;by_cases h0:v.2.1=true
  ·rw [if_pos h0,if_pos h0];have hn:v.2.2∈bq s:=List.mem_append_left _ (List.mem_append_right _ (List.mem_map.2 ⟨v,List.mem_filter.2 ⟨hv,by simpa using h0⟩,rfl⟩));have h2:=h.nameIn hn;rw [nn _ h2.1 _ _ (fun x hx=>(h.nameIn ((hfm x).1 hx)).1) (by rw [List.length_replicate]; omega),if_pos ((hfm _).2 hn)]
  ·rw [if_neg h0,if_neg h0]
 ·intro hc;obtain ⟨v,hv,hb⟩:=List.any_eq_true.1 hc;rcases nl _ _ _ hv with hv | ⟨x,hx,rfl⟩
  ·have h2:=(List.mem_replicate.1 hv).2;subst h2;simp [eH] at hb
  ·have:=h.toIn ((hfm x).1 hx);simp [eH] at hb;omega
end
theorem Right.fromLen {s:an} (h:Right s):(ap s).length≤64:=by
 obtain ⟨q1,q2,q3⟩:=jF h.root h.pin h.hand;have e1:=jV s.2.1 s.1.length;have e2:=i9 s.2.2.2;have e3:(ap s).length≤(eb ((bD s.2.1 s.1.length).1++eK s.2.2.2++s.2.2.1.map (·.1))).length:=jS _;rw [iL] at e3;simp only [List.length_append,List.length_map] at e3;omega
theorem Right.small {s:an} (h:Right s):s.2.1.length≤32∧s.2.2.1.length≤16∧s.2.2.2.length≤16:=jF h.root h.pin h.hand
theorem Right.gaps {s:an} (h:Right s):ay (cU s)=(aU false [] (aa (cU s)).1,0)∧(∀ r∈aU false [] (aa (cU s)).1,0≤r.1∧1≤r.2∧r.2≤256)∧(aU false [] (aa (cU s)).1).length≤256:=by
 obtain ⟨hz,hl,_⟩:=h.slidOK;obtain ⟨g1,g2⟩:=pf (b7 hz).2.2.2.1;have hal:=h.al;refine ⟨by unfold ay; rw [if_neg (by omega)],fun r hr=>?_,g2⟩;have:=g1 r hr;omega
theorem Cf {f:List Int} {g:Int→Int} {i:Int} (h0:0≤i) (h1:i<f.length):(f.map g).getD i.toNat 0=g (f.getD i.toNat 0):=by
 have:i.toNat<f.length:=by omega
 simp [List.getD_eq_getElem?_getD,this]
theorem pJ {l:List bY} {i:Int} (h0:0≤i) (h1:i<l.length):ep (l.take (i+1).toNat)=ep (l.take i.toNat)+(l.getD i.toNat (0,0)).2:=by
 rw [bo ((0,0):bY) h0 h1,mh]
structure ObjAt (s:an) (x:Int):Prop where
 isb:isB (aa s.1).1 x=true
 at_:db s.1 x=(gO s.1 (x,dp s.1 x) (au s.1).2.1,0)
 refs:((db s.1 x).1.2.1.length:Int)=(dp s.1 x).1
 body:((db s.1 x).1.2.2.1.length:Int)=(dp s.1 x).2.1
 x0:0≤x
 r0:0≤(dp s.1 x).1
 b0:0≤(dp s.1 x).2.1
 fit:x+1+(dp s.1 x).1+(dp s.1 x).2.1≤s.1.length
theorem Right.obj {s:an} (h:Right s) {x:Int} (hx:x∈bq s):ObjAt s x:=by
 have hb:=h.nam x hx;obtain ⟨_,_,e⟩:=J2 h.chk hb;obtain ⟨l1,l2,l3,l4,l5,l6⟩:=cI hb;obtain ⟨k1,k2⟩:=FR h.chk hb;exact ⟨hb,e,by omega,by omega,l3,l5,l6,l4⟩
theorem Right.rootIn {s:an} (h:Right s) {k:Int} (h0:0≤k) (h1:k<s.2.1.length):-1≤s.2.1.getD k.toNat 0∧s.2.1.getD k.toNat 0<s.1.length:=xU (mJ h.root) (aI (0:Int) h0 h1)
theorem Right.rootNam {s:an} (h:Right s) {k:Int} (h0:0≤k) (h1:k<s.2.1.length) (h2:0≤s.2.1.getD k.toNat 0):s.2.1.getD k.toNat 0∈bq s :=
 List.mem_append_left _ (List.mem_append_left _ (List.mem_filter.2 ⟨aI (0:Int) h0 h1,by simpa using h2⟩))
theorem Right.handNam {s:an} (h:Right s) {k:Int} (h0:0≤k) (h1:k<s.2.2.2.length) (h2:(s.2.2.2.getD k.toNat (0,false,0)).2.1=true):(s.2.2.2.getD k.toNat (0,false,0)).2.2∈bq s :=
 List.mem_append_left _ (List.mem_append_right _ (List.mem_map.2 ⟨_,List.mem_filter.2 ⟨aI ((0,false,0):bW) h0 h1,by simpa using h2⟩,rfl⟩))
theorem Right.refWord {s:an} (h:Right s) {x k:Int} (hx:isB (aa s.1).1 x=true) (h0:0≤k) (h1:k<(dp s.1 x).1):0≤s.1.getD (x+1+k).toNat 0∧s.1.getD (x+1+k).toNat 0≤256:=by
 obtain ⟨l1,l2,l3,l4,l5,l6⟩:=cI hx
 have hm:s.1.getD (x+1+k).toNat 0∈a7 s.1 x:=by
  unfold a7 aJ;have hlt:(x+1+k).toNat<s.1.length:=by omega
  rw [List.mem_iff_getElem?];refine ⟨k.toNat,?_⟩;rw [List.getElem?_drop,List.getElem?_take,if_pos (by simp only; omega),show (x+1).toNat+k.toNat=(x+1+k).toNat by omega];simp [List.getD_eq_getElem?_getD,hlt]
 have hw:=h.w _ (aI (0:Int) (xs:=s.1) (i:=x+1+k) (by omega) (by omega));have hw0:0≤s.1.getD (x+1+k).toNat 0:=hw.1;by_cases hz:s.1.getD (x+1+k).toNat 0=0
 ·omega
 ·have ho:s.1.getD (x+1+k).toNat 0 - 1∈dI s.1 x:=List.mem_map.2 ⟨_,List.mem_filter.2 ⟨hm,by simpa using hz⟩,rfl⟩;have:=gE (mq h.w h.chk hx ho);omega
end
end Go.Proofs.YtglchojglcobjaaGreatDoor
