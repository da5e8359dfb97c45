
import Derived.Test.YtmfileeamnfpaaaGreatDoorEG5
import Derived.Deep.LoopGhost
namespace Go.Proofs.YtmfileeamnfpaaaGreatDoor
open Go
structure LoopAnn where
 cs:List Cr
 inv:dk cs->Prop
 mu:dk cs->Nat
structure LoopGen where
 rd:List Cr
 wr:List Nat:=[]
 fz:List Nat:=[]
 A:dk rd->LoopAnn
def AV.rowsOf:AV->List Nat
 | .own d=>[d]
 | .pair a b=>a.rowsOf++b.rowsOf
 | _=>[]
def St.close1 (S:St) (d:Nat):St:=match S.lh d with
 | some (.cells c)=>S.freeze c.rowsOf
 | some (.mapo _ _ _ _ c0)=>match (S.freeze c0.rowsOf).lh d with
  | some (.mapo k V m _ c)=>if S.lock d then S else match AV.toTy false (S.freeze c0.rowsOf).lh V c with
   | some y=>(S.freeze c0.rowsOf).entry d (.mapp k V (m.map fun e=>(e.1,e.2.getD y)))
   | none=>S
  | _=>S
 | _=>S
def St.closes (S:St) (ds:List Nat):St:=ds.foldl St.close1 S
section
variable {M:Nat->Prop} {p0:PH} {w0:World} {tm:Array Value} {w:World} {β:Nat->Value}
theorem AG {S:St} {p:PH} (hS:SatB M p0 w0 S tm w p β) (d:Nat):∃ p',PH.le p p'/\SatB M p0 w0 (S.close1 d) tm w p' β:=by
 unfold St.close1;split
 ·exact bX _ S p hS
 ·rename_i c0 hc0;split
  ·rename_i k V m x c hd;split
   ·exact ⟨p,PH.le.refl p,hS⟩
   split
   ·rename_i y hy;obtain ⟨p1,hle,hS1⟩:=bX c0.rowsOf S p hS;generalize S.freeze c0.rowsOf=S1 at *;obtain ⟨r,es,clock,e1,e2,e3,e4,e5⟩:=hS1.lhs d _ hd;refine ⟨p1,hle,hS1.turn (w':=w) hd rfl (by rw [e1]; rfl) rfl rfl rfl rfl (fun _ _=>rfl) ⟨r,es,clock,e1,e2,e3,mG (fun v hv=>?_) m es.toList e5⟩⟩;have:=cP hS1 (rows:=false) hy (val_of_one (tm:=tm) _ v hv);simp only [PG,P5] at this;exact jG.2 this
   ·exact ⟨p,PH.le.refl p,hS⟩
  ·exact ⟨p,PH.le.refl p,hS⟩
 ·exact ⟨p,PH.le.refl p,hS⟩
theorem lU:∀ (ds:List Nat) (S:St) (p:PH),SatB M p0 w0 S tm w p β->∃ p',PH.le p p'/\SatB M p0 w0 (S.closes ds) tm w p' β
 | [],_,p,hS=>⟨p,PH.le.refl p,hS⟩
 | d::ds,S,p,hS=>by
  obtain ⟨p1,h1,hS1⟩:=AG hS d;obtain ⟨p2,h2,hS2⟩:=lU ds (S.close1 d) p1 hS1;exact ⟨p2,h1.trans h2,hS2⟩
theorem Jj {L:List Nat} {bad:Nat->Bool} {S:St} (h:Tidy bad S) (d:Nat):Fr L bad S (S.close1 d)/\Tidy bad (S.close1 d):=by
 unfold St.close1;split
 ·exact di _ S h
 ·rename_i c0 hc0;have h1:=di (L:=L) (bad:=bad) c0.rowsOf S h;have hlk:(S.freeze c0.rowsOf).lock=S.lock:=(cN _ _).2.2;split
  ·split
   ·exact ⟨Fr.refl _ _ _,h⟩
   rename_i hl;split
   ·exact ⟨h1.1.trans (cS h1.2 (by rw [hlk]; simpa using hl) _),bU h1.2 (fun t T xs e=>by cases e)⟩
   ·exact ⟨Fr.refl _ _ _,h⟩
  ·exact ⟨Fr.refl _ _ _,h⟩
 ·exact ⟨Fr.refl _ _ _,h⟩
theorem qU {L:List Nat} {bad:Nat->Bool}:∀ (ds:List Nat) (S:St),Tidy bad S->Fr L bad S (S.closes ds)/\Tidy bad (S.closes ds)
 | [],S,h=>⟨Fr.refl _ _ _,h⟩
 | d::ds,S,h=>by
  have h1:=Jj (L:=L) h d;have h2:=qU (L:=L) ds (S.close1 d) h1.2;exact ⟨h1.1.trans h2.1,h2.2⟩
end
def AZ (ann:Nat->Option LoopGen) (k:Nat):List Nat:=match ann k with
 | some G=>G.wr
 | none=>[]
def gA:Code->Nat
 | .region id _ _=>id
 | .seq a _=>gA a
 | .cond _ a _=>gA a
 | .block _ a=>gA a
 | .loop a=>gA a
 | _=>0
def AD (a b:Code):Nat:=1000000+(bif Nat.beq (gA a) 0 then gA b else gA a)
def da (ann:Nat->Option LoopGen):Code->List Nat
 | .region _ ops _=>ops.toList.filterMap (·.dst)
 | .seq a b=>da ann a++da ann b
 | .cond _ a b=>AZ ann (AD a b)++(da ann a++da ann b)
 | .block _ a=>AZ ann (9000000+gA a)++da ann a
 | .loop a=>AZ ann (gA a)++da ann a
 | _=>[]
def L9:List Prop->Prop->Prop
 | [],q=>q
 | p::ps,q=>p/\L9 ps q
def df (L:List Nat) (cs:List Cr):Bool :=
 cs.all fun c=>match c with
  | .dat s _=>L.contains s
  | .own s _ _=>L.contains s
  | .same s _=>L.contains s
  | .part s _ _=>L.contains s
  | _=>true
def J5 (fz:List Nat) (A:LoopAnn) (L:List Nat) (S:St) (body:St->(St->Prop)->(Nat->St->Prop)->(St->Prop)->Prop) (X:Nat->St->Prop) (R:St->Prop):Prop :=
 match jf S A.cs with
 | none=>False
 | some (x0,ren) =>
  if F5 S L (bk ren) A.cs ren&&L.all (Nat.blt · 900000)&&(df L A.cs&&E8 A.cs) then
   A.inv x0/\∀ x,A.inv x->body (bf S L (bk ren) A.cs x)
    (fun S'=>match jf (S'.closes fz) A.cs with
     | none=>False
     | some (x',ren')=>if F5 (S'.closes fz) L (bk ren) A.cs ren' then A.inv x'/\A.mu x'<A.mu x else False)
    (fun i S'=>X i { S' with lock:=S.lock }) (fun S'=>R { S' with lock:=S.lock })
  else False
def J4 (body:St->(St->Prop)->(Nat->St->Prop)->(St->Prop)->Prop) (X:Nat->St->Prop) (R:St->Prop):Nat->St->Prop
 | 0,_=>False
 | n+1,S=>body S (J4 body X R n) X R
def mP (S:St) (cs:List Cr):List Nat:=match jf S cs with
 | some (_,ren)=>bk ren
 | none=>[]
def gb (S:St) (L X boxes:List Nat):St :=
 { env:=fun s=>bif L.contains s then S.env s else ((S.env s).scrub (bD L X)).opn []
   lh:=fun d=>bif bD L X d then S.lh d else bif boxes.contains d then (match S.lh d with | some (.cells c)=>some (.cells c) | some (.mapp k V m)=>some (.mapp k V m) | some (.iter k V m c)=>some (.iter k V m c) | some (.mapo k V m x c)=>some (.mapo k V m x c) | _=>none) else (S.lh d).map (LE.scrub (bD L X))
   n:=S.n
   lock:=fun d=>!bD L X d&&!boxes.contains d }
def qt (A:LoopAnn) (L:List Nat) (S:St) (body:St->(St->Prop)->(Nat->St->Prop)->(St->Prop)->Prop) (K:St->Prop) (X:Nat->St->Prop) (R:St->Prop):Prop :=
 if (A.cs.flatMap Cr.boxName).all (fun d=>!S.lock d)&&L.all (Nat.blt · 900000)&&(df L A.cs&&E8 A.cs) then
  body (gb S L (mP S A.cs) (A.cs.flatMap Cr.boxName))
   (fun S'=>match jf S' A.cs with
    | none=>False
    | some (x',ren')=>if F5 S' L (mP S A.cs) A.cs ren' then A.inv x' else False)
   (fun i S'=>X i { S' with lock:=S.lock }) (fun S'=>R { S' with lock:=S.lock }) /\
  ∀ x,A.inv x->K { bf S L (mP S A.cs) A.cs x with lock:=S.lock }
 else False
def tt (S:St) (c:Operand) (va vb:Prop):Prop :=
 match S.look [] c with
 | .bool t=>(t=true->va)/\(t=false->vb)
 | .bl t f=>(t->va)/\(f->vb)
 | _=>False
def NI (S:St) (c:Operand) (va vb:Prop):Prop :=
 match S.look [] c with
 | .bool t=>bif t then va else vb
 | _=>False
abbrev NH:=FuncId->Option (List AV->St->Nat->(St->Prop)->Prop)
def NK (inl:NH) (S:St) (o:Oper):Option ((List AV->St->Nat->(St->Prop)->Prop)×List AV×Nat) :=
 match o.guard,o.dst,o.op with
 | none,some d,.call { callee:=.value x,args,.. }=>match S.look [] x with
  | .fn f c1 c2=>match inl f with
   | some G=>if Nat.blt d S.n then some (G,(c1.map fun x=>.loc x.1 x.2)++args.toList.map (S.look [])++(c2.map fun x=>.loc x.1 x.2),d) else none
   | none=>none
  | _=>none
 | _,_,_=>none
def KS (S:St) (o:Oper):Option (Nat×Nat×IntKind×((V:Ty)×List (Int×V.den))) :=
 match o.guard,o.dst,o.op with
 | none,some d,.next x false=>match S.look [] x with
  | .loc n 0=>match S.lh n with
   | some (.iter k V l _)=>if Nat.blt d S.n&&!S.lock n then some (d,n,k,⟨V,l⟩) else none
   | _=>none
  | _=>none
 | _,_,_=>none
def Ok (S:St) (d n:Nat) (k:IntKind) (V:Ty) (x:Int×V.den) (l:List (Int×V.den)):St :=
 (S.entry n (.iter k V l (some x))).set d (.tup (.bool true) (.tup (.int k x.1) (.tup (V.av x.2) .tnil)))
def ro (P:Program) (ss:Specs) (inl:NH) (ops:Array Oper):List Oper->St->(St->Prop)->Prop
 | [],S,K=>K S
 | o::os,S,K=>match NK inl S o with
  | some (G,avs,d)=>G avs S d (fun S'=>ro P ss inl ops os S' K)
  | none=>match KS S o with
   | some (d,n,k,⟨V,l⟩)=>(l=[]->ro P ss inl ops os (S.set d (.tup (.bool false) .tnil)) K) /\
     ∀ (l1:List (Int×V.den)) (x:Int×V.den) (l2:List (Int×V.den)),l=l1++x::l2->ro P ss inl ops os (Ok S d n k V x (l1++l2)) K
   | none=>match Ao P ss ops o S with
    | some (ps,S1)=>L9 ps (ro P ss inl ops os S1 K)
    | none=>False
def On (inl:NH) (ops:Array Oper):Bool:=ops.toList.any fun o=>match o.op with
 | .call { callee:=.value (.tmp _),.. }=>true
 | .call { callee:=.value (.func f),.. }=>(inl f).isSome
 | .next _ false=>true
 | _=>false
def OL (P:Program) (ss:Specs) (ops:Array Oper) (S:St):Option (List Prop×St):=match run P ss ops ops.toList S with
 | some r=>some r
 | none=>run P ss ops ops.toList (S.freeze (eC ss ops S))
def vc (P:Program) (ss:Specs) (inl:NH) (ann:Nat->Option LoopGen):Code->St->(St->Prop)->(Nat->St->Prop)->(St->Prop)->Prop
 | .skip,S,K,_,_=>K S
 | .region id ops draw,S,K,X,R=>if !draw&&On inl ops then ro P ss inl ops ops.toList S (fun S'=>K S'.clean) else match (if draw then ann (5000000+id) else none) with
  | some G=>(match jf { S with lock:=fun _=>false } G.rd with
   | some g=>if P.follows .mixedOrders then qt (G.A g.1) (ops.toList.filterMap (·.dst)) S (fun S K _ _=>qG P ss ops ops.size (Array.replicate ops.size false) S.clean (fun S'=>K S'.clean)) K X R else False
   | none=>False)
  | none=>match (if draw then mC (ann (4000000+id)).isSome P (ss.cutIf (ann (6000000+id)).isSome (ann (7000000+id)).isSome) ops S.clean else OL P (ss.cutIf false (ann (7000000+id)).isSome) ops S) with
  | some (ps,S')=>L9 ps (K S'.clean)
  | none=>False
 | .seq a b,S,K,X,R=>vc P ss inl ann a S (fun S'=>vc P ss inl ann b S' K X R) X R
 | .cond c a b,S,K,X,R=>if (ann (9000000+AD a b)).isSome then NI S c (vc P ss inl ann a S K X R) (vc P ss inl ann b S K X R) else match ann (AD a b) with
  | none=>tt S c (vc P ss inl ann a S K X R) (vc P ss inl ann b S K X R)
  | some G=>match jf { S with lock:=fun _=>false } G.rd with
   | some g=>qt (G.A g.1) (G.wr++(da ann a++da ann b)) S (fun S K X R=>tt S c (vc P ss inl ann a S K X R) (vc P ss inl ann b S K X R)) K X R
   | none=>False
 | .block id a,S,K,X,R=>match ann (9000000+gA a) with
  | none=>vc P ss inl ann a S K (fun i S'=>bif Nat.beq i id then K S' else X i S') R
  | some G=>match jf { S with lock:=fun _=>false } G.rd with
   | some g=>qt (G.A g.1) (G.wr++da ann a) S (fun S K X R=>vc P ss inl ann a S K (fun i S'=>bif Nat.beq i id then K S' else X i S') R) K X R
   | none=>False
 | .loop a,S,_,X,R=>match ann (8000000+gA a) with
  | some G=>J4 (vc P ss inl ann a) X R (G.wr.length+1) S
  | none=>match ann (gA a) with
   | some G=>match jf { S.closes G.fz with lock:=fun _=>false } G.rd with
    | some g=>J5 G.fz (G.A g.1) (G.wr++da ann a) (S.closes G.fz) (vc P ss inl ann a) X R
    | none=>False
   | none=>False
 | .exit id,S,_,X,_=>X id S
 | .ret,S,_,_,R=>R S
 | _,_,_,_,_=>False
section
variable {M:Nat->Prop} {p0:PH} {w0:World} {P:Program}
theorem lv:∀ (ps:List Prop) (q:Prop),L9 ps q->(∀ x∈ps,x)/\q
 | [],_,h=>⟨fun x hx=>(by cases hx),h⟩
 | p::ps,q,h=>by
  obtain ⟨h1,h2⟩:=lv ps q h.2;refine ⟨fun x hx=>?_,h2⟩;rcases PD.1 hx with rfl | hx
  ·exact h.1
  ·exact h1 x hx
theorem sy (c:Cr) (x y:c.den) (s:Nat):(c.envOf y s).isSome=(c.envOf x s).isSome:=by
 cases c <;> simp only [Cr.envOf] <;> first | rfl | (split <;> rfl)
theorem Iy (d:Nat):∀ (fs:List BF) (j:Nat) (x y:mb fs) (n:Nat),(tT d j fs y n).isSome=(tT d j fs x n).isSome:=by
 have one:∀ (f:BF) (nm:Nat) (x y:f.den) (n:Nat),(f.row nm y n).isSome=(f.row nm x n).isSome:=by
  intro f nm x y n;cases f with
  | dat T=>rfl
  | own e T=>simp only [BF.row]; split <;> rfl
  | mpc d=>rfl
  | lcc d=>rfl
 intro fs
 induction fs with
 | nil=>intro j x y n; rfl
 | cons f fs ih =>
  intro j x y n;cases fs with
  | nil=>exact one f _ x y n
  | cons g fs =>
   simp only [tT];have h1:=one f (fu d j) x.1 y.1 n;have h2:=ih (j+1) x.2 y.2 n;cases e1:f.row (fu d j) x.1 n <;> cases e2:f.row (fu d j) y.1 n <;> rw [e1,e2] at h1 <;> first | exact h2 | rfl | cases h1
theorem vt (c:Cr) (x y:c.den) (d:Nat):(c.lhOf y d).isSome=(c.lhOf x d).isSome:=by
 cases c with
 | boxS d' fs =>
  simp only [Cr.lhOf];split
  ·rfl
  ·exact Iy d' fs 0 x y d
 | mapS d' k V e T =>
  simp only [Cr.lhOf];split
  ·rfl
  ·split <;> rfl
 | _=>simp only [Cr.lhOf] <;> first | rfl | (split <;> rfl)
theorem DA:∀ (cs:List Cr) (x y:dk cs) (s:Nat),(envOf cs y s).isSome=(envOf cs x s).isSome
 | [],_,_,_=>rfl
 | [c],x,y,s=>sy c x y s
 | c::d::cs,x,y,s=>by
  have h1:=sy c x.1 y.1 s;have h2:=DA (d::cs) x.2 y.2 s;simp only [envOf];cases e1:c.envOf x.1 s <;> cases e2:c.envOf y.1 s <;> rw [e1,e2] at h1 <;> first | exact h2 | rfl | cases h1
theorem G0:∀ (cs:List Cr) (x y:dk cs) (d:Nat),(lhOf cs y d).isSome=(lhOf cs x d).isSome
 | [],_,_,_=>rfl
 | [c],x,y,s=>vt c x y s
 | c::d::cs,x,y,s=>by
  have h1:=vt c x.1 y.1 s;have h2:=G0 (d::cs) x.2 y.2 s;simp only [lhOf];cases e1:c.lhOf x.1 s <;> cases e2:c.lhOf y.1 s <;> rw [e1,e2] at h1 <;> first | exact h2 | rfl | cases h1
theorem m5:∀ (cs:List Cr) (x:dk cs) (d:Nat),(cs.flatMap Cr.boxName).contains d=true->(lhOf cs x d).isSome=true
 | [],_,_,h=>by simp at h
 | [c],x,d,h=>by
  cases c <;> simp [Cr.boxName] at h <;> subst h <;> simp [lhOf,Cr.lhOf]
 | c::c'::cs,x,d,h=>by
  simp only [lhOf];cases e:c.lhOf x.1 d with
  | some a=>rfl
  | none =>
   refine m5 (c'::cs) x.2 d ?_;rw [Ql] at h;have h':=PY.1 h;rcases PI.1 h' with h1 | h1
   ·exfalso;cases c <;> simp only [Cr.boxName,PB,R2] at h1
    all_goals subst h1; simp [Cr.lhOf] at e
   ·exact PY.2 h1
def Ms (M:Nat->Prop) (p0:PH) (w0:World) (ds:List Deferred) (L:List Nat) (bad:Nat->Bool) (S:St) (K:St->Prop) (X:Nat->St->Prop) (R:St->Prop):Exit->Act->World->Prop
 | .normal,a,w=>∃ S',K S'/\Fr L bad S S'/\Tidy bad S'/\Sat M p0 w0 S' a.tmps w/\a.defers=ds
 | .exit i,a,w=>∃ S',X i S'/\Fr L bad S S'/\Tidy bad S'/\Sat M p0 w0 S' a.tmps w/\a.defers=ds
 | .ret,a,w=>∃ S',R S'/\Fr L bad S S'/\Tidy bad S'/\Sat M p0 w0 S' a.tmps w/\a.defers=ds
 | _,_,_=>False
theorem Sat.congr {S T:St} {tm:Array Value} {w:World} (h:Sat M p0 w0 S tm w) (he:T.env=S.env) (hl:T.lh=S.lh) (hn:T.n=S.n):Sat M p0 w0 T tm w:=by
 obtain ⟨p,β,h⟩:=h;refine ⟨p,β,h.keep,h.agr,h.old,by rw [hn]; exact h.size,?_,?_,?_,?_⟩
 ·rw [hl]; exact h.lhs
 ·rw [hl]; exact h.owns
 ·rw [hl]; exact h.inj
 ·rw [he]; exact h.env
theorem fK {L1 L2:List Nat}:∀ s,L1.contains s=true->(L1++L2).contains s=true:=fun s h=>by
 simp only [PY,PI] at h |-; exact .inl h
theorem bj {L1 L2:List Nat}:∀ s,L2.contains s=true->(L1++L2).contains s=true:=fun s h=>by
 simp only [PY,PI] at h |-; exact .inr h
theorem om {L X:List Nat} (h:L.all (Nat.blt · 900000)=true):Named L (bD L X):=by
 intro d hd k
 have h1:d<900000:=by
  have:=PA.1 h d (PY.1 hd);simpa using this
 have h2:bv d k % 1000000=d:=by unfold bv; omega
 simp only [bD,h2,hd,Bool.true_or]
theorem vF {L X L':List Nat} {bad:Nat->Bool} (hN:Named L' bad) (h9:∀ n,Am n=true->bad n=true) (hL:∀ s,L.contains s=true->L'.contains s=true) (hX:∀ n∈X,bad n=true) :
  ∀ n,bD L X n=true->bad n=true:=by
 intro n hn;simp only [bD,Qq] at hn;rcases hn with (hn | hn) | hn
 ·have h1:n=bv (n % 1000000) (n / 1000000):=by unfold bv; omega
  rw [h1];exact hN _ (hL _ hn) _
 ·exact hX n (PY.1 hn)
 ·exact h9 n hn
theorem vu {bad:Nat->Bool} {S:St} (hT:Tidy bad S) {L:List Nat} (h9:∀ n,Am n=true->bad n=true) (hL:∀ s,L.contains s=true->bad s=true) {c:Cr} {x:c.den} {ren:List (Nat×Option Nat)}
  (h:c.get S=some (x,ren)) (hs:df L [c]=true):∀ n∈bk ren,bad n=true:=by
 have row:∀ {e:TypeId} {T:Ty} {a:AV} {y:List T.den×Option Nat},a.rowAt S e T=some y->∀ d,y.2=some d->bad d=true:=by
  intro e T a y hy d hd;cases a <;> simp only [AV.rowAt,reduceCtorEq] at hy
  ·injection hy with hy; subst hy; cases hd
  ·split at hy <;> try cases hy
   rename_i e' T' ys hlh;split at hy <;> try cases hy
   rename_i hT';subst hT';split at hy <;> simp only [Ps,reduceCtorEq] at hy;rename_i hb;simp only [Px,PX] at hb;subst hy;injection hd with hd
   subst hd;exact hT.row _ _ _ _ hlh hb.2
 intro n hn;cases c with
 | dat s T =>
  obtain ⟨y,hy,h0⟩:=Py.1 h;injection h0 with _ h00
  subst h00;cases hn
 | box d T =>
  unfold Cr.get at h;simp only at h;split at h
  case h_2=>cases h
  obtain ⟨y,hy,h0⟩:=Py.1 h;injection h0 with _ h00
  subst h00;cases hn
 | part s s' T =>
  simp only [Cr.get] at h;split at h <;> try cases h
  split at h <;> try cases h
  split at h <;> simp only [Ps,reduceCtorEq] at h;obtain ⟨_,rfl⟩:=h;cases hn
 | same s s' =>
  simp only [Cr.get] at h;split at h <;> try cases h
  split at h <;> simp only [Ps,reduceCtorEq] at h;obtain ⟨_,rfl⟩:=h;cases hn
 | map d k V =>
  simp only [Cr.get] at h;split at h <;> try cases h
  split at h <;> simp only [Ps,reduceCtorEq] at h;obtain ⟨_,rfl⟩:=h;cases hn
 | iter d k V =>
  simp only [Cr.get] at h;split at h <;> try cases h
  split at h <;> simp only [Ps,reduceCtorEq] at h;obtain ⟨_,rfl⟩:=h;cases hn
 | own s e T =>
  obtain ⟨y,hy,h0⟩:=Py.1 h;injection h0 with _ h00
  subst h00;simp only [bk,Ql,List.flatMap_nil,Qi,PD,Option.mem_toList] at hn;rcases hn with rfl | hn
  ·exact hL _ (by simpa [df] using hs)
  ·exact row hy n hn
 | mapS d k V e T =>
  unfold Cr.get at h;simp only at h;split at h <;> try cases h
  split at h <;> try cases h
  obtain ⟨y,hy,h0⟩:=Py.1 h;injection h0 with _ h00
  subst h00;simp only [bk,Ql,List.flatMap_nil,Qi,PD,Option.mem_toList] at hn;rcases hn with rfl | hn
  ·exact h9 _ (tS hy)
  ·exact row (ld hy) n hn
 | boxS d fs =>
  obtain ⟨_,_,h⟩:=vD h
  have one:∀ (f:BF) (j:Nat) (a:AV) (x:f.den) (r:List (Nat×Option Nat)),f.get S (fu d j) a=some (x,r)->∀ n∈bk r,bad n=true:=by
   intro f j a x r h n hn;cases f with
   | dat T =>
    obtain ⟨y,hy,h0⟩:=Py.1 h;injection h0 with _ h00
    subst h00;cases hn
   | mpc d =>
    simp only [BF.get] at h;split at h <;> try cases h
    split at h <;> simp only [Ps,reduceCtorEq] at h;injection h with _ h
    subst h;cases hn
   | lcc d =>
    simp only [BF.get] at h;split at h <;> try cases h
    split at h <;> simp only [Ps,reduceCtorEq] at h;injection h with _ h
    subst h;cases hn
   | own e T =>
    obtain ⟨y,hy,h0⟩:=Py.1 h;injection h0 with _ h00
    subst h00;simp only [bk,Ql,List.flatMap_nil,Qi,PD,Option.mem_toList] at hn;rcases hn with rfl | hn
    ·exact h9 _ (tS hy)
    ·exact row (ld hy) n hn
  have all:∀ (fs:List BF) (j:Nat) (a:AV) (x:mb fs) (r:List (Nat×Option Nat)),pS S d j fs a=some (x,r)->∀ n∈bk r,bad n=true:=by
   intro fs
   induction fs with
   | nil=>intro j a x r h; cases h
   | cons f fs ih =>
    intro j a x r h n hn;cases fs with
    | nil=>exact one f j a x r h n hn
    | cons g fs =>
     unfold pS at h;split at h <;> simp only [Ps,reduceCtorEq] at h;rename_i y r1 z r2 h1 h2;obtain ⟨_,rfl⟩:=h;simp only [bk,RJ,PI] at hn;rcases hn with hn | hn
     ·exact one f j _ y r1 h1 n hn
     ·exact ih (j+1) _ z r2 h2 n hn
  exact all fs 0 _ x ren h n hn
theorem pR {bad:Nat->Bool} {S:St} (hT:Tidy bad S) {L X:List Nat} (h9:∀ n,Am n=true->bad n=true) (hL:∀ s,L.contains s=true->bad s=true):∀ (cs:List Cr) (x:dk cs) (ren:List (Nat×Option Nat)),
  jf S cs=some (x,ren)->df L cs=true->∀ n∈bk ren,bad n=true
 | [],x,ren,h,_,n,hn=>by
  injection h with h
  injection h with _ h
  subst h;cases hn
 | [c],x,ren,h,hs,n,hn=>vu hT h9 hL h hs n hn
 | c::d::cs,x,ren,h,hs,n,hn=>by
  unfold jf at h;split at h <;> try cases h
  rename_i x1 r1 y r2 h1 h2;simp only [df,Qv,Px] at hs;simp only [bk,RJ,PI] at hn;rcases hn with hn | hn
  ·exact vu hT h9 hL h1 (by simp only [df,Qv,RH,Bool.and_true]; exact hs.1) n hn
  ·exact pR hT (X:=X) h9 hL (d::cs) y r2 h2 (by simp only [df,Qv,Px]; exact hs.2) n hn
theorem uH:∀ (cs:List Cr) (x y:dk cs) (S:St) (ren:List (Nat×Option Nat)),jf S cs=some (y,ren)->∀ {d:Nat} {t:TypeId} {T:Ty} {xs:List T.den},lhOf cs x d=some (.row t T xs)->d∈ren.map (·.1):=by
 have one:∀ (c:Cr) (x y:c.den) (S:St) (ren:List (Nat×Option Nat)),c.get S=some (y,ren)->∀ {d:Nat} {t:TypeId} {T:Ty} {xs:List T.den},c.lhOf x d=some (.row t T xs)->d∈ren.map (·.1):=by
  intro c x y S ren h d t T xs he;cases c with
  | dat s T=>simp [Cr.lhOf] at he
  | same _ _=>simp [Cr.lhOf] at he
  | part _ _ _=>simp [Cr.lhOf] at he
  | map d' k V =>
   simp only [Cr.lhOf] at he;split at he <;> simp only [Ps,reduceCtorEq] at he
  | iter d' k V =>
   simp only [Cr.lhOf] at he;split at he <;> simp only [Ps,reduceCtorEq] at he
  | box d' T =>
   simp only [Cr.lhOf] at he;split at he <;> simp only [Ps,reduceCtorEq] at he
  | own s e T =>
   obtain ⟨y',hy,h0⟩:=Py.1 h;injection h0 with _ h00
   subst h00;simp only [Cr.lhOf] at he;split at he <;> simp only [Ps,reduceCtorEq] at he;rename_i hs;simp [Pw hs]
  | mapS d' k V e T' =>
   unfold Cr.get at h;simp only at h;split at h <;> try cases h
   split at h <;> try cases h
   obtain ⟨y',hy,h0⟩:=Py.1 h;injection h0 with _ h00
   subst h00;simp only [Cr.lhOf] at he;split at he
   ·cases he
   ·split at he <;> simp only [Ps,reduceCtorEq] at he;rename_i hs;simp [Pw hs]
  | boxS d' fs =>
   obtain ⟨_,_,h⟩:=vD h;simp only [Cr.lhOf] at he;split at he
   ·cases he
   ·have one:∀ (f:BF) (j:Nat) (a:AV) (x y:f.den) (r:List (Nat×Option Nat)),f.get S (fu d' j) a=some (y,r)->f.row (fu d' j) x d=some (.row t T xs)->d∈r.map (·.1):=by
     intro f j a x y r h he;cases f with
     | dat T=>cases he
     | mpc d=>cases he
     | lcc d=>cases he
     | own e T =>
      obtain ⟨y',hy,h0⟩:=Py.1 h;injection h0 with _ h00
      subst h00;simp only [BF.row] at he;split at he <;> simp only [Ps,reduceCtorEq] at he;rename_i hs;simp [Pw hs]
    have all:∀ (fs:List BF) (j:Nat) (a:AV) (x y:mb fs) (r:List (Nat×Option Nat)),pS S d' j fs a=some (y,r)->tT d' j fs x d=some (.row t T xs)->d∈r.map (·.1):=by
     intro fs
     induction fs with
     | nil=>intro j a x y r h; cases h
     | cons f fs ih =>
      intro j a x y r h he;cases fs with
      | nil=>exact one f j a x y r h he
      | cons g fs =>
       unfold pS at h;split at h <;> simp only [Ps,reduceCtorEq] at h;rename_i y1 r1 z r2 h1 h2;obtain ⟨_,rfl⟩:=h;simp only [tT] at he;rw [Qn];split at he
       ·rename_i e' he';injection he with he
        subst he;exact PE _ (one f j _ x.1 y1 r1 h1 he')
       ·exact PK _ (ih (j+1) _ x.2 z r2 h2 he)
    exact all fs 0 _ x y ren h he
 intro cs
 induction cs with
 | nil=>intro x y S ren h d t T xs he; cases he
 | cons c cs ih =>
  intro x y S ren h d t T xs he;cases cs with
  | nil=>exact one c x y S ren h he
  | cons c' cs =>
   unfold jf at h;split at h <;> try cases h
   rename_i x1 r1 y' r2 h1 h2;simp only [lhOf] at he;rw [Qn];split at he
   ·rename_i a ha;injection he with he
    subst he;exact PE _ (one c x.1 x1 S r1 h1 ha)
   ·exact PK _ (ih x.2 y' S r2 h2 he)
theorem vo:∀ (cs:List Cr) (x:dk cs) (L:List Nat),df L cs=true->∀ s,(envOf cs x s).isSome=true->L.contains s=true:=by
 have one:∀ (c:Cr) (x:c.den) (L:List Nat),df L [c]=true->∀ s,(c.envOf x s).isSome=true->L.contains s=true:=by
  intro c x L hs s h;cases c with
  | dat s' T =>
   simp only [Cr.envOf] at h;split at h
   ·rename_i he; rw [Pw he]; simpa [df] using hs
   ·cases h
  | own s' e T =>
   simp only [Cr.envOf] at h;split at h
   ·rename_i he; rw [Pw he]; simpa [df] using hs
   ·cases h
  | part s1 s2 T =>
   simp only [Cr.envOf] at h;split at h
   ·rename_i he; rw [Pw he]; simpa [df] using hs
   ·cases h
  | same s1 s2 =>
   simp only [Cr.envOf] at h;split at h
   ·rename_i he; rw [Pw he]; simpa [df] using hs
   ·cases h
  | box d T=>simp [Cr.envOf] at h
  | boxS d fs=>simp [Cr.envOf] at h
  | map d k V=>simp [Cr.envOf] at h
  | iter d k V=>simp [Cr.envOf] at h
  | mapS d k V e T=>simp [Cr.envOf] at h
 intro cs
 induction cs with
 | nil=>intro x L _ s h; simp [envOf] at h
 | cons c cs ih =>
  intro x L hs s h;cases cs with
  | nil=>exact one c x L hs s h
  | cons c' cs =>
   simp only [df,Qv,Px] at hs;simp only [envOf] at h;split at h
   ·rename_i a ha;exact one c x.1 L (by simp only [df,Qv,RH,Bool.and_true]; exact hs.1) s (by rw [ha]; rfl)
   ·exact ih x.2 L (by simp only [df,Qv,Px]; exact hs.2) s h
theorem GA (d:Nat):∀ (fs:List BF) (j:Nat) (x:mb fs) (n:Nat) (e:LE),tT d j fs x n=some e->∃ t T xs,e=.row t T xs:=by
 have one:∀ (f:BF) (nm:Nat) (x:f.den) (n:Nat) (e:LE),f.row nm x n=some e->∃ t T xs,e=.row t T xs:=by
  intro f nm x n e h;cases f with
  | dat T=>cases h
  | mpc d=>cases h
  | lcc d=>cases h
  | own t T =>
   simp only [BF.row] at h;split at h <;> simp only [Ps,reduceCtorEq] at h;exact ⟨_,_,_,h.symm⟩
 intro fs
 induction fs with
 | nil=>intro j x n e h; cases h
 | cons f fs ih =>
  intro j x n e h;cases fs with
  | nil=>exact one f _ x n e h
  | cons g fs =>
   simp only [tT] at h;split at h
   ·rename_i e' he';injection h with h
    subst h;exact one f _ x.1 n _ he'
   ·exact ih (j+1) x.2 n e h
theorem I7:∀ (cs:List Cr) (x:dk cs) (d:Nat) (e:LE),lhOf cs x d=some e->(∃ t T xs,e=.row t T xs)\/(cs.flatMap Cr.boxName).contains d=true:=by
 have one:∀ (c:Cr) (x:c.den) (d:Nat) (e:LE),c.lhOf x d=some e->(∃ t T xs,e=.row t T xs)\/d∈c.boxName:=by
  intro c x d e h;cases c with
  | dat s T=>simp [Cr.lhOf] at h
  | same _ _=>simp [Cr.lhOf] at h
  | part _ _ _=>simp [Cr.lhOf] at h
  | map d' k V=>simp only [Cr.lhOf] at h; split at h <;> simp only [Ps,reduceCtorEq] at h; rename_i hs; right; simp [Cr.boxName,Pw hs]
  | iter d' k V=>simp only [Cr.lhOf] at h; split at h <;> simp only [Ps,reduceCtorEq] at h; rename_i hs; right; simp [Cr.boxName,Pw hs]
  | own s t T=>simp only [Cr.lhOf] at h; split at h <;> simp only [Ps,reduceCtorEq] at h; exact .inl ⟨_,_,_,h.symm⟩
  | box d' T=>simp only [Cr.lhOf] at h; split at h <;> simp only [Ps,reduceCtorEq] at h; rename_i hs; right; simp [Cr.boxName,Pw hs]
  | mapS d' k V e T =>
   simp only [Cr.lhOf] at h;split at h
   ·rename_i hs; right; simp [Cr.boxName,Pw hs]
   ·split at h <;> simp only [Ps,reduceCtorEq] at h;exact .inl ⟨_,_,_,h.symm⟩
  | boxS d' fs =>
   simp only [Cr.lhOf] at h;split at h
   ·rename_i hs; right; simp [Cr.boxName,Pw hs]
   ·exact .inl (GA d' fs 0 x d e h)
 intro cs
 induction cs with
 | nil=>intro x d e h; cases h
 | cons c cs ih =>
  intro x d e h;cases cs with
  | nil =>
   rw [PY];rcases one c x d e h with h | h
   ·exact .inl h
   ·exact .inr (by simpa using h)
  | cons c' cs =>
   simp only [lhOf] at h;rw [Ql,PY,PI];split at h
   ·rename_i a ha;injection h with h
    subst h;exact (one c x.1 d _ ha).imp id .inl
   ·exact (ih x.2 d e h).imp id (fun h=>.inr (PY.1 h))
theorem pI:∀ (cs:List Cr) (x:dk cs) (d:Nat) (tm:Array Value) (env:Nat->AV),lhOf cs x d≠some (.frame tm env):=by
 have one:∀ (c:Cr) (x:c.den) (d:Nat) (tm:Array Value) (env:Nat->AV),c.lhOf x d≠some (.frame tm env):=by
  intro c x d tm env h;cases c with
  | mapS d' k V e T =>
   simp only [Cr.lhOf] at h;split at h
   ·simp only [Ps,reduceCtorEq] at h
   ·split at h <;> simp only [Ps,reduceCtorEq] at h
  | boxS d' fs =>
   simp only [Cr.lhOf] at h;split at h
   ·simp only [Ps,reduceCtorEq] at h
   ·obtain ⟨_,_,_,e⟩:=GA d' fs 0 x d _ h;cases e
  | _=>simp only [Cr.lhOf] at h <;> first | (cases h; done) | (split at h <;> simp only [Ps,reduceCtorEq] at h)
 intro cs
 induction cs with
 | nil=>intro x d tm env h; cases h
 | cons c cs ih =>
  intro x d tm env h;cases cs with
  | nil=>exact one c x d tm env h
  | cons c' cs =>
   simp only [lhOf] at h;split at h
   ·rename_i a ha;injection h with h
    subst h;exact one c x.1 d tm env ha
   ·exact ih x.2 d tm env h
theorem I5 {S:St} {L X:List Nat} {cs:List Cr} {x0:dk cs} {ren:List (Nat×Option Nat)} (hg:jf S cs=some (x0,ren)) (hc:F5 S L X cs ren=true) (x:dk cs):Tidy (bD L X) (bf S L X cs x):=by
 simp only [F5,Px] at hc;have hc:=hc.1;refine ⟨fun d hd=>?_,fun d e T xs hd hl=>?_,fun d tm env hd=>?_⟩
 ·simp only [bf,Px,PX] at hd;exact hd.1
 ·simp only [bf] at hd hl;split at hd
  ·rename_i e' he;injection hd with hd
   subst hd;have hm:=uH cs x x0 S ren hg he;obtain ⟨z,hz,rfl⟩:=P3.1 hm;exact PA.1 hc.1.1.1 _ (fW hz).1
  ·rename_i hnone;cases hb:bD L X d
   ·rw [hb] at hl;simp only [Sk,QL,Bool.not_eq_false'] at hl;have:=m5 cs x d hl;rw [hnone] at this;cases this
   ·rfl
 ·simp only [bf] at hd;split at hd
  ·rename_i e' he;injection hd with hd
   subst hd;exact absurd he (pI cs x d tm env)
  ·rename_i hnone;cases hb:bD L X d
   ·simp only [bf,hb,Sk,QL];cases hbx:(cs.flatMap Cr.boxName).contains d
    ·rfl
    ·have:=m5 cs x d hbx;rw [hnone] at this;cases this
   ·rw [hb] at hd; cases hd
theorem jQ:∀ (cs:List Cr) (x:dk cs) {S:St} {L X:List Nat} {x0:dk cs} {ren:List (Nat×Option Nat)},jf S cs=some (x0,ren)->F5 S L X cs ren=true->∀ d e,lhOf cs x d=some e->bD L X d=true\/(cs.flatMap Cr.boxName).contains d=true:=by
 intro cs x S L X x0 ren hg hc d e he;simp only [F5,Px] at hc;have hc:=hc.1;rcases I7 cs x d e he with ⟨t,T,xs,rfl⟩ | h
 ·have hm:=uH cs x x0 S ren hg he;obtain ⟨z,hz,rfl⟩:=P3.1 hm;exact .inl (PA.1 hc.1.1.1 _ (fW hz).1)
 ·exact .inr h
theorem Nb {L0:List Nat} {bad:Nat->Bool} {S:St} (hT:Tidy bad S) {L X:List Nat} {cs:List Cr} {x0:dk cs} {ren:List (Nat×Option Nat)} (hg:jf S cs=some (x0,ren)) (hsub:∀ n,bD L X n=true->bad n=true) (hc:F5 S L X cs ren=true) (hs:df L cs=true)
  (hL:∀ s,L.contains s=true->L0.contains s=true) (x:dk cs):Fr L0 bad S { bf S L X cs x with lock:=S.lock }:=by
 have hc':=hc;simp only [F5,Px] at hc;have hc:=hc.1;refine ⟨rfl,rfl,fun s hs' hst=>?_,fun d hd hst=>?_,fun d tm env he=>?_⟩
 ·have hLs:L.contains s=false:=by
   cases h:L.contains s
   ·rfl
   ·rw [hL s h] at hs'; cases hs'
  have hnone:envOf cs x s=none:=by
   cases h:envOf cs x s with
   | none=>rfl
   | some a=>have:=vo cs x L hs s (by rw [h]; rfl); rw [hLs] at this; cases this
  simp only [bf,hnone,hLs,PF];rw [dC hsub _ hst.1,gR hst.2]
 ·have hbd:bD L X d=false:=by
   cases h:bD L X d
   ·rfl
   ·have:=hT.lock d hd; rw [hsub d h] at this; cases this
  have hnone:lhOf cs x d=none:=by
   cases h:lhOf cs x d with
   | none=>rfl
   | some e =>
    rcases jQ cs x hg hc' d e h with h1 | h1
    ·rw [hbd] at h1; cases h1
    ·have:=PA.1 hc.2 d (PY.1 h1);simp only [Px,PX] at this;rw [hd] at this;cases this.2
  simp only [bf,hnone,hbd,PF];cases h:S.lh d with
  | none=>rfl
  | some e0=>simp only [Qb,ik hsub e0 (hst e0 h)]
 ·have hd:=hT.frame d tm env he
  have hbd:bD L X d=false:=by
   cases h:bD L X d
   ·rfl
   ·have:=hT.lock d hd; rw [hsub d h] at this; cases this
  have hnone:lhOf cs x d=none:=by
   cases h:lhOf cs x d with
   | none=>rfl
   | some e =>
    rcases jQ cs x hg hc' d e h with h1 | h1
    ·rw [hbd] at h1; cases h1
    ·have:=PA.1 hc.2 d (PY.1 h1);simp only [Px,PX] at this;rw [hd] at this;cases this.2
  refine ⟨fun s=>(env s).scrub (bD L X),by simp only [bf,hnone,hbd,PF,he,Qb,LE.scrub],fun s hs=>dC hsub _ hs.1⟩
theorem Lg {L0:List Nat} {bad:Nat->Bool} {S S':St} (hT:Tidy bad S) {L X:List Nat} {cs:List Cr} {x0:dk cs} {ren:List (Nat×Option Nat)} (hg:jf S cs=some (x0,ren)) (hsub:∀ n,bD L X n=true->bad n=true) (hc:F5 S L X cs ren=true) (hs:df L cs=true)
  (hL:∀ s,L.contains s=true->L0.contains s=true) (x:dk cs) (hF:Fr L (bD L X) (bf S L X cs x) S') (hT':Tidy (bD L X) S'):Fr L0 bad S { S' with lock:=S.lock }/\Tidy bad { S' with lock:=S.lock }:=by
 have h0:=Nb (L0:=L0) hT hg hsub hc hs hL x;have hc':=hc;simp only [F5,Px] at hc;have hc:=hc.1
 have kept:∀ d,S'.lock d=true->S'.lh d=(S.lh d).map (LE.scrub (bD L X)):=by
  intro d hlk;rw [hF.lock] at hlk;simp only [bf,Px,PX] at hlk
  have hnone:lhOf cs x d=none:=by
   cases h:lhOf cs x d with
   | none=>rfl
   | some e =>
    rcases jQ cs x hg hc' d e h with h1 | h1
    ·rw [hlk.1] at h1; cases h1
    ·rw [hlk.2] at h1; cases h1
  have e1:(bf S L X cs x).lh d=(S.lh d).map (LE.scrub (bD L X)):=by simp only [bf,hnone,hlk.1,PF]
  have h2:=hF.lh d (by simp only [bf,hlk.1,hlk.2]; rfl) (fun e he=>by
   rw [e1] at he;simp only [Py] at he;obtain ⟨e0,_,rfl⟩:=he;exact gm _ e0)
  rw [h2,e1]
 refine ⟨⟨hF.n,rfl,fun s hs' hst=>?_,fun d hd hst=>?_,fun d tm env he=>?_⟩,⟨hT.lock,fun d e T xs hd hl=>?_,fun d tm env hd=>?_⟩⟩
 ·have hLs:L.contains s=false:=by
   cases h:L.contains s
   ·rfl
   ·rw [hL s h] at hs'; cases hs'
  have h1:=h0.env s hs' hst;simp only at h1;have h2:=hF.env s hLs (by rw [h1]; exact ⟨dC hsub _ hst.1,hst.2⟩);exact h2.trans h1
 ·have h1:=h0.lh d hd hst;simp only at h1
  have hbd:bD L X d=false:=by
   cases h:bD L X d
   ·rfl
   ·have:=hT.lock d hd; rw [hsub d h] at this; cases this
  have hnb:(cs.flatMap Cr.boxName).contains d=false:=by
   cases h:(cs.flatMap Cr.boxName).contains d
   ·rfl
   ·have:=PA.1 hc.2 d (PY.1 h);simp only [Px,PX] at this;rw [hd] at this;cases this.2
  have hlock:(bf S L X cs x).lock d=true:=by simp only [bf,hbd,hnb]; rfl
  have h2:=hF.lh d hlock (by
   intro e he;rw [h1] at he;exact ik hsub e (hst e he))
  exact h2.trans h1
 ·obtain ⟨env1,g1,g2⟩:=h0.frames d tm env he;obtain ⟨env2,g3,g4⟩:=hF.frames d tm env1 g1;exact ⟨env2,g3,fun s hs=>(g4 s (by rw [g2 s hs]; exact ⟨dC hsub _ hs.1,hs.2⟩)).trans (g2 s hs)⟩
 ·simp only at hd hl;cases hlk:S'.lock d
  ·exact hsub d (hT'.row d e T xs hd hlk)
  ·
   rw [kept d hlk] at hd;simp only [Py] at hd;obtain ⟨e0,h3,h4⟩:=hd;cases e0 <;> simp only [LE.scrub,reduceCtorEq] at h4;exact hT.row d _ _ _ h3 hl
 ·simp only at hd;rw [kept d (hT'.frame d tm env hd)] at hd;simp only [Py] at hd;obtain ⟨e0,h3,h4⟩:=hd;cases e0 <;> simp only [LE.scrub,reduceCtorEq] at h4;exact hT.frame d _ _ h3
section join
variable {L0 L X boxes:List Nat} {bad:Nat->Bool} {S S':St}
theorem GO {tm:Array Value} {w:World} (h:Sat M p0 w0 S tm w):Sat M p0 w0 (gb S L X boxes) tm w:=by
 obtain ⟨p,β,hS⟩:=h
 have hlh:∀ d e,(gb S L X boxes).lh d=some e->∃ e0,S.lh d=some e0/\e.live=e0.live/\(e0.sat p β w d->e.sat p β w d):=by
  intro d e hd;simp only [gb] at hd;cases hb:bD L X d
  ·rw [hb] at hd;simp only [PF] at hd;cases hx:boxes.contains d
   ·rw [hx] at hd;simp only [PF,Py] at hd;obtain ⟨e0,h1,rfl⟩:=hd;exact ⟨e0,h1,LE.scrub_live _ _,fun hs=>LE.sat_scrub (fun _ _=>rfl) d hb e0 hs⟩
   ·rw [hx] at hd;simp only [PZ] at hd;split at hd
    ·rename_i c hl;injection hd with hd
     subst hd;exact ⟨_,hl,rfl,id⟩
    ·rename_i hl;injection hd with hd
     subst hd;exact ⟨_,hl,rfl,id⟩
    ·rename_i hl;injection hd with hd
     subst hd;exact ⟨_,hl,rfl,id⟩
    ·rename_i hl;injection hd with hd
     subst hd;exact ⟨_,hl,rfl,id⟩
    ·cases hd
  ·rw [hb] at hd;exact ⟨e,hd,rfl,id⟩
 refine ⟨p,β,hS.keep,hS.agr,hS.old,hS.size,fun d e hd=>?_,fun d e b hd hl hb=>?_,fun d d' e e' b hd hl hd' hl' hb hb'=>?_,fun s=>?_⟩
 ·obtain ⟨e0,h1,_,h3⟩:=hlh d e hd;exact h3 (hS.lhs d e0 h1)
 ·obtain ⟨e0,h1,h2,_⟩:=hlh d e hd;exact hS.owns d e0 b h1 (by rw [<- h2]; exact hl) hb
 ·obtain ⟨e0,h1,h2,_⟩:=hlh d e hd;obtain ⟨e1,k1,k2,_⟩:=hlh d' e' hd';exact hS.inj d d' e0 e1 b h1 (by rw [<- h2]; exact hl) k1 (by rw [<- k2]; exact hl') hb hb'
 ·simp only [gb];cases L.contains s
  ·exact cZ (aN _) _ _ (AV.val_scrub (fun _ _=>rfl) _ _ (hS.env s))
  ·exact hS.env s
theorem CD (hT:Tidy bad S) (hsub:∀ n,bD L X n=true->bad n=true):Tidy (bD L X) (gb S L X boxes):=by
 refine ⟨fun d hd=>?_,fun d e T xs hd hl=>?_,fun d tm env hd=>?_⟩
 ·simp only [gb,Px,PX] at hd;exact hd.1
 ·simp only [gb] at hd hl;cases hb:bD L X d
  ·rw [hb] at hd hl;simp only [Sk,QL,Bool.not_eq_false'] at hl;rw [hl] at hd;simp only [PF,PZ] at hd;split at hd <;> cases hd
  ·rfl
 ·simp only [gb] at hd;cases hb:bD L X d
  ·rw [hb] at hd;simp only [PF] at hd;simp only [gb,hb,Sk,QL];cases hx:boxes.contains d
   ·rfl
   ·rw [hx] at hd;simp only [PZ] at hd;split at hd <;> cases hd
  ·rw [hb] at hd;have:=hT.lock d (hT.frame d tm env hd);rw [hsub d hb] at this;cases this
theorem zL (hF:Fr L (bD L X) (gb S L X boxes) S') {d:Nat} (hb:bD L X d=false) (hx:boxes.contains d=false):S'.lh d=(S.lh d).map (LE.scrub (bD L X)):=by
 have e1:(gb S L X boxes).lh d=(S.lh d).map (LE.scrub (bD L X)):=by simp only [gb,hb,hx,PF]
 have h2:=hF.lh d (by simp only [gb,hb,hx]; rfl) (fun e he=>by
  rw [e1] at he;simp only [Py] at he;obtain ⟨e0,_,rfl⟩:=he;exact gm _ e0)
 rw [h2,e1]
theorem GP (hF:Fr L (bD L X) (gb S L X boxes) S') {s:Nat} (hs:L.contains s=false):S'.env s=((S.env s).scrub (bD L X)).opn []:=by
 have e1:(gb S L X boxes).env s=((S.env s).scrub (bD L X)).opn []:=by simp only [gb,hs,PF]
 have h2:=hF.env s hs (by rw [e1]; exact nj _ _);rw [h2,e1]
theorem xO {cs:List Cr} (hF:Fr L (bD L X) (gb S L X (cs.flatMap Cr.boxName)) S') (x:dk cs) :
  (bf S L X cs x).env=(bf S' L X cs x).env/\(bf S L X cs x).lh=(bf S' L X cs x).lh/\S.n=S'.n:=by
 refine ⟨?_,?_,hF.n.symm⟩
 ·funext s;simp only [bf];cases he:envOf cs x s with
  | some a=>rfl
  | none =>
   cases hL:L.contains s
   ·simp only [PF];rw [GP hF hL,(nj (bD L X) (S.env s)).1,gR (cm _ _)]
   ·rfl
 ·funext d;simp only [bf];cases he:lhOf cs x d with
  | some a=>rfl
  | none =>
   cases hb:bD L X d
   ·simp only [PF]
    have hnb:(cs.flatMap Cr.boxName).contains d=false:=by
     cases hbx:(cs.flatMap Cr.boxName).contains d
     ·rfl
     ·have:=m5 cs x d hbx; rw [he] at this; cases this
    rw [zL hF hb hnb];cases S.lh d with
    | none=>rfl
    | some e0=>simp only [Qb,gm]
   ·rfl
theorem KO (hT:Tidy bad S) (hsub:∀ n,bD L X n=true->bad n=true) (hL:∀ s,L.contains s=true->L0.contains s=true) (hbx:∀ d∈boxes,S.lock d=false) :
  ∀ S',Fr L (bD L X) (gb S L X boxes) S'->Tidy (bD L X) S'->Fr L0 bad S { S' with lock:=S.lock }/\Tidy bad { S' with lock:=S.lock }:=by
 intro S' hF hT';refine ⟨⟨hF.n,rfl,fun s hs' hst=>?_,fun d hd hst=>?_,fun d tm env he=>?_⟩,⟨hT.lock,fun d e T xs hd hl=>?_,fun d tm env hd=>?_⟩⟩
 ·have hLs:L.contains s=false:=by
   cases h:L.contains s
   ·rfl
   ·rw [hL s h] at hs'; cases hs'
  show S'.env s=S.env s;rw [GP hF hLs,dC hsub _ hst.1,gR hst.2]
 ·have hbd:bD L X d=false:=by
   cases h:bD L X d
   ·rfl
   ·have:=hT.lock d hd; rw [hsub d h] at this; cases this
  have hnb:boxes.contains d=false:=by
   cases h:boxes.contains d
   ·rfl
   ·have:=hbx d (PY.1 h); rw [hd] at this; cases this
  show S'.lh d=S.lh d;rw [zL hF hbd hnb];cases h:S.lh d with
  | none=>rfl
  | some e0=>simp only [Qb,ik hsub e0 (hst e0 h)]
 ·have hd:=hT.frame d tm env he
  have hbd:bD L X d=false:=by
   cases h:bD L X d
   ·rfl
   ·have:=hT.lock d hd; rw [hsub d h] at this; cases this
  have hnb:boxes.contains d=false:=by
   cases h:boxes.contains d
   ·rfl
   ·have:=hbx d (PY.1 h); rw [hd] at this; cases this
  obtain ⟨env2,g3,g4⟩:=hF.frames d tm (fun s=>(env s).scrub (bD L X)) (by simp only [gb,hbd,hnb,PF,he,Qb,LE.scrub]);refine ⟨env2,g3,fun s hs=>?_⟩;have e1:=dC hsub _ hs.1;exact (g4 s (by simp only [e1]; exact ⟨e1,hs.2⟩)).trans e1
 ·simp only at hd hl;cases hlk:S'.lock d
  ·exact hsub d (hT'.row d e T xs hd hlk)
  ·rw [hF.lock] at hlk;simp only [gb,Px,PX] at hlk;rw [zL hF hlk.1 hlk.2] at hd;simp only [Py] at hd;obtain ⟨e0,h3,h4⟩:=hd;cases e0 <;> simp only [LE.scrub,reduceCtorEq] at h4;exact hT.row d _ _ _ h3 hl
 ·simp only at hd;have hlk:=hT'.frame d tm env hd;rw [hF.lock] at hlk;simp only [gb,Px,PX] at hlk;rw [zL hF hlk.1 hlk.2] at hd;simp only [Py] at hd;obtain ⟨e0,h3,h4⟩:=hd;cases e0 <;> simp only [LE.scrub,reduceCtorEq] at h4;exact hT.frame d _ _ h3
theorem G3 (hT:Tidy bad S) (hsub:∀ n,bD L X n=true->bad n=true) (hL:∀ s,L.contains s=true->L0.contains s=true) {cs:List Cr} (hs:df L cs=true) (hbx:∀ d∈cs.flatMap Cr.boxName,S.lock d=false)
  {x:dk cs} {ren:List (Nat×Option Nat)} (hg:jf S' cs=some (x,ren)) (hc:F5 S' L X cs ren=true):Fr L0 bad S { bf S L X cs x with lock:=S.lock }/\Tidy bad { bf S L X cs x with lock:=S.lock }:=by
 refine ⟨⟨rfl,rfl,fun s hs' hst=>?_,fun d hd hst=>?_,fun d tm env he=>?_⟩,⟨hT.lock,fun d e T xs hd hl=>?_,fun d tm env hd=>?_⟩⟩
 ·have hLs:L.contains s=false:=by
   cases h:L.contains s
   ·rfl
   ·rw [hL s h] at hs'; cases hs'
  have hnone:envOf cs x s=none:=by
   cases h:envOf cs x s with
   | none=>rfl
   | some a=>have:=vo cs x L hs s (by rw [h]; rfl); rw [hLs] at this; cases this
  simp only [bf,hnone,hLs,PF];rw [dC hsub _ hst.1,gR hst.2]
 ·have hbd:bD L X d=false:=by
   cases h:bD L X d
   ·rfl
   ·have:=hT.lock d hd; rw [hsub d h] at this; cases this
  have hnone:lhOf cs x d=none:=by
   cases h:lhOf cs x d with
   | none=>rfl
   | some e =>
    rcases jQ cs x hg hc d e h with h1 | h1
    ·rw [hbd] at h1; cases h1
    ·have:=hbx d (PY.1 h1);rw [hd] at this;cases this
  simp only [bf,hnone,hbd,PF];cases h:S.lh d with
  | none=>rfl
  | some e0=>simp only [Qb,ik hsub e0 (hst e0 h)]
 ·have hd:=hT.frame d tm env he
  have hbd:bD L X d=false:=by
   cases h:bD L X d
   ·rfl
   ·have:=hT.lock d hd; rw [hsub d h] at this; cases this
  have hnone:lhOf cs x d=none:=by
   cases h:lhOf cs x d with
   | none=>rfl
   | some e =>
    rcases jQ cs x hg hc d e h with h1 | h1
    ·rw [hbd] at h1; cases h1
    ·have:=hbx d (PY.1 h1);rw [hd] at this;cases this
  refine ⟨fun s=>(env s).scrub (bD L X),by simp only [bf,hnone,hbd,PF,he,Qb,LE.scrub],fun s hs=>dC hsub _ hs.1⟩
 ·simp only [bf] at hd hl;split at hd
  ·rename_i e' he;injection hd with hd
   subst hd;have hm:=uH cs x x S' ren hg he;obtain ⟨z,hz,rfl⟩:=P3.1 hm;simp only [F5,Px] at hc;have hc:=hc.1;exact hsub _ (PA.1 hc.1.1.1 _ (fW hz).1)
  ·cases hb:bD L X d
   ·rw [hb] at hd;simp only [PF,Py] at hd;obtain ⟨e0,h3,h4⟩:=hd;cases e0 <;> simp only [LE.scrub,reduceCtorEq] at h4;exact hT.row d _ _ _ h3 hl
   ·rw [hb] at hd; cases hd
 ·simp only [bf] at hd;split at hd
  ·rename_i e' he;injection hd with hd
   subst hd;exact absurd he (pI cs x d tm env)
  ·cases hb:bD L X d
   ·rw [hb] at hd;simp only [PF,Py] at hd;obtain ⟨e0,h3,h4⟩:=hd;cases e0 <;> simp only [LE.scrub,reduceCtorEq] at h4;exact hT.frame d _ _ h3
   ·rw [hb] at hd; cases hd
end join
def Mv (P:Program) (inl:NH) (M:Nat->Prop) (w0:World):Prop:=∀ f G,inl f=some G->cT P f=true/\∀ (p0:PH) (S:St) (avs:List AV) (vs:List Value) (d:Nat) (K:St->Prop) (tm:Array Value) (w:World) (p:PH) (β:Nat->Value) (L:List Nat) (bad:Nat->Bool),
 G avs S d K->SatB M p0 w0 S tm w p β->vs.length=avs.length->(∀ (i:Nat) x v,avs[i]?=some x->vs[i]?=some v->x.val p β tm v/\x.noGd=true)->Tidy bad S->Named L bad->(∀ n,Am n=true->bad n=true)->L.contains d=true->d<S.n ->
 Calls P f vs.toArray w fun e w'=>∃ v S3,e=.returned v/\K S3/\Fr L bad S S3/\Tidy bad S3/\Sat M p0 w0 S3 (tm.setIfInBounds d v) w'
theorem nL {α:Type} {k:IntKind} {h:α->Value->Prop}:∀ (A:List MapEntry) {e:MapEntry} {B:List MapEntry} {m:List (Int×α)},cq k h m (A++e::B) ->
  ∃ m1 x m2,m=m1++x::m2/\cq k h (m1++m2) (A++B)/\e.key=.int k x.1/\am k x.1/\h x.2 e.val
 | [],e,B,m,hm=>by
  cases m with
  | nil=>cases hm
  | cons x m =>
   obtain ⟨e',es',he,h1,h2,h3,h4⟩:=hm;injection he with he1 he2
   subst he1 he2;exact ⟨[],x,m,rfl,h4,h1,h2,h3⟩
 | y::A,e,B,m,hm=>by
  cases m with
  | nil=>cases hm
  | cons x m =>
   obtain ⟨e',es',he,h1,h2,h3,h4⟩:=hm;injection he with he1 he2
   subst he1 he2;obtain ⟨m1,z,m2,rfl,g1,g2⟩:=nL A h4;exact ⟨x::m1,z,m2,rfl,⟨y,A++B,rfl,h1,h2,h3,g1⟩,g2⟩
theorem I9 {es:Array MapEntry} {seen:Array Nat} (hn:(es.toList.map (·.born)).Nodup) {A B:List MapEntry} {e:MapEntry} (h:(leftOf es seen).toList=A++e::B):(leftOf es (seen.push e.born)).toList=A++B:=by
 have h1:(leftOf es (seen.push e.born)).toList=(leftOf es seen).toList.filter (fun x=>!(x.born == e.born)):=by
  simp only [leftOf,Array.toList_filter,List.filter_filter];congr 1;funext x;rw [RO];simp only [PX,Px,Array.contains_eq_mem,Qw,Array.mem_push,beq_eq_false_iff_ne];constructor
  ·intro h; exact ⟨fun h2=>h (.inr h2),fun h2=>h (.inl h2)⟩
  ·rintro ⟨h1,h2⟩ (h3 | h3)
   ·exact h2 h3
   ·exact h1 h3
 have h2:((A++e::B).map (·.born)).Nodup:=by
  rw [<- h]
  have:(leftOf es seen).toList.Sublist es.toList:=by
   simp only [leftOf,Array.toList_filter];exact List.filter_sublist
  exact (this.map _).nodup hn
 rw [Qn,Qf,RS,Q9] at h2;obtain ⟨_,⟨h4,_⟩,h5⟩:=h2;rw [h1,h,Q6,List.filter_cons]
 have hA:A.filter (fun x=>!(x.born == e.born))=A:=RK.2 fun x hx=>by
  have:=h5 x.born (P3.2 ⟨x,hx,rfl⟩) e.born PV;simpa using this
 have hB:B.filter (fun x=>!(x.born == e.born))=B:=RK.2 fun x hx=>by
  have:x.born≠e.born:=fun h=>h4 (P3.2 ⟨x,hx,h⟩)
  simpa using this
 rw [hA,hB];simp
theorem ka {ss:Specs} (hss:ss.okA P M w0) {inl:NH} (hinl:Mv P inl M w0) {ops:Array Oper} {L:List Nat} {bad:Nat->Bool} (hN:Named L bad) (h9:∀ n,Am n=true->bad n=true) {Q:Exit->Act->World->Prop}:∀ (os:List Oper) (S:St) (K:St->Prop) (a:Act) (w:World),
  (∀ o∈os,∀ d,o.dst=some d->L.contains d=true)->Tidy bad S->Sat M p0 w0 S a.tmps w->ro P ss inl ops os S K ->
  (∀ a' w' S',K S'->Fr L bad S S'->Tidy bad S'->Sat M p0 w0 S' a'.tmps w'->a'.defers=a.defers->Q .normal a' w')->wpList P ops Q os a w
 | [],S,K,a,w,_,hT,hS,h,hQ=>wpList_nil (hQ a w S h (Fr.refl _ _ _) hT hS rfl)
 | o::os,S,K,a,w,hd,hT,hS,h,hQ=>by
  simp only [ro] at h;split at h
  ·rename_i G avs d ho;unfold NK at ho;split at ho <;> try cases ho
   rename_i d' x args ts hg hdst hop;split at ho <;> try cases ho
   rename_i f c1 c2 hfn;split at ho <;> try cases ho
   rename_i G' hG;split at ho <;> simp only [Ps,Pv,reduceCtorEq] at ho;rename_i hdn;obtain ⟨rfl,rfl,rfl⟩:=ho;obtain ⟨hcall,hok⟩:=hinl f G' hG;obtain ⟨p,β,hB⟩:=hS;have hv:=aU hB (aN _) x;rw [hfn] at hv;obtain ⟨v1,v2,e1,k1,k2⟩:=hv;obtain ⟨l1,m1⟩:=jB (p:=p) (tm:=a.tmps) c1 v1.toList k1;obtain ⟨l2,m2⟩:=jB (p:=p) (tm:=a.tmps) c2 v2.toList k2
   have hc:=hok p0 S _ (v1.toList++args.toList.map a.eval++v2.toList) d' _ a.tmps w p β L bad h hB (by simp at l1 l2 |-; omega) (fun i y v hy hv=>by
    have noloc:∀ (c:List (Nat×Nat)) (i:Nat) (y:AV),(c.map fun x=>AV.loc x.1 x.2)[i]?=some y->y.noGd=true:=by
     intro c i y hy;rw [List.getElem?_map] at hy;obtain ⟨z,_,rfl⟩:=Py.1 hy;rfl
    have hlen1:(c1.map fun x=>AV.loc x.1 x.2).length=v1.toList.length:=by simp at l1 |-; omega
    have hlen2:(args.toList.map (S.look [])).length=(args.toList.map a.eval).length:=by simp
    rw [PT] at hy hv;rcases PU i v1.toList.length with hi | hi
    ·rw [List.getElem?_append_left (by omega)] at hy;rw [List.getElem?_append_left hi] at hv;exact ⟨m1 i y v hy hv,noloc _ _ _ hy⟩
    ·rw [List.getElem?_append_right (by omega),hlen1] at hy;rw [List.getElem?_append_right hi] at hv;generalize i - v1.toList.length=j at hy hv;rcases PU j (args.toList.map a.eval).length with hj | hj
     ·rw [List.getElem?_append_left (by omega),List.getElem?_map] at hy;rw [List.getElem?_append_left hj,List.getElem?_map] at hv;obtain ⟨z,hz,rfl⟩:=Py.1 hy;rw [hz] at hv;simp only [Qb,Ps] at hv;subst hv;exact ⟨aU hB (aN _) z,cm _ _⟩
     ·rw [List.getElem?_append_right (by omega),hlen2] at hy;rw [List.getElem?_append_right hj] at hv;exact ⟨m2 _ y v hy hv,noloc _ _ _ hy⟩) hT hN h9 (hd o (by simp) d' hdst) (dc hdn)
   refine wpList_plain hg (fun K' hK=>?_);unfold Oper.wp;rw [qD hcall hop e1];simp only [Rn]
   have e2:(v1++Array.map a.eval args++v2)=(v1.toList++args.toList.map a.eval++v2.toList).toArray:=by
    apply P6.1; simp
   rw [e2];refine hc.mono ?_;rintro en w' ⟨v,S3,rfl,h1,h2,h3,h4⟩;refine hK _ _ (ka hss hinl hN h9 os S3 K (a.put o.dst v) w' (fun o' ho'=>hd o' (by simp [ho'])) h3 (by rw [hdst]; exact h4) h1 (fun a' w'' S' g1 g2 g3 g4 g5=>hQ a' w'' S' g1 (h2.trans g2) g3 g4 (g5.trans (by rw [hdst]; rfl))))
  ·split at h
   ·rename_i d n k V l ho;unfold KS at ho;split at ho <;> try cases ho
    rename_i d' x hg hdst hop;split at ho <;> try cases ho
    rename_i n' hloc;split at ho <;> try cases ho
    rename_i k' V' l' cur hn;split at ho <;> simp only [Ps,Pv,reduceCtorEq] at ho;rename_i hb;simp only [Px,PX] at hb;obtain ⟨rfl,rfl,rfl,ho⟩:=ho;injection ho with ho1 ho2
    subst ho1;have ho2:=eq_of_heq ho2;subst ho2;obtain ⟨p,β,hB⟩:=hS;have hv:=aU hB (aN _) x;rw [hloc] at hv;obtain ⟨b,e1,e2⟩:=hv;obtain ⟨r,bm,since,seen,c0,es,clock,f1,f2,f3,f4,f5,f6,f7,f8,_⟩:=hB.lhs n' _ hn;rw [e1] at f1;injection f1 with f1
    injection f1 with f1
    injection f1 with f1
    subst f1;have hnd:(es.toList.map (·.born)).Nodup:=f4.1.imp fun h=>Nat.ne_of_lt h
    refine wpList_plain hg (fun K' hK=>?_)
    have step:∀ (T:St) (v:Value) (w':World),(Instr.next (a.eval x) false o.type).run P w=.ok v w'->Sat M p0 w0 T (a.tmps.setIfInBounds d' v) w'->Fr L bad S T->Tidy bad T->ro P ss inl ops os T K->o.wp P a w K' Q:=by
     intro T v w' hrun hT' hfr htd hvc;refine EOK.of_run (S':=T) hdst (v:=v) (w':=w') (by simp only [execOp,hop,PR,hrun,PL,P2]) hT' K' Q (fun a' w'' hS' hdf=>hK _ _ (ka hss hinl hN h9 os T K a' w'' (fun o' ho'=>hd o' (by simp [ho'])) htd hS' hvc (fun a'' w3 S' g1 g2 g3 g4 g5=>hQ a'' w3 S' g1 (hfr.trans g2) g3 g4 (g5.trans hdf))))
    rw [e2] at step;rcases run_next_at w o.type b bm since c0 seen es clock f2 (hB.agr _ _ f3) f5 f6 with ⟨h0,hrun⟩ | ⟨e,he,w1,hw1,hrun⟩
    ·have hnil:l'=[]:=by
      have:(leftOf es seen).toList=[]:=by simpa using h0
      rw [this] at f8;cases l' with
      | nil=>rfl
      | cons x l=>obtain ⟨_,_,h,_⟩:=f8; cases h
     exact step _ _ _ hrun ⟨p,β,hB.set (a:=.tup (.bool false) .tnil) (dc hb.1) ⟨[.bool false],rfl,rfl,trivial⟩⟩ (iD (hd o (by simp) _ hdst) _) (eG hT _ _) (h.1 hnil)
    ·obtain ⟨A,B,hAB⟩:=List.append_of_mem he;have hleft:=I9 hnd hAB;rw [hAB] at f8;obtain ⟨l1,y,l2,rfl,g1,g2,g3,g4⟩:=nL A f8
     have hmem:e∈es.toList:=by
      have:(leftOf es seen).toList.Sublist es.toList:=by
       simp only [leftOf,Array.toList_filter];exact List.filter_sublist
      exact this.subset he
     have hB1:SatB M p0 w0 S a.tmps w1 p β:=by
      rcases hw1 with rfl | rfl
      ·exact hB
      ·exact hB.drew
     have hf2:w1.heap[b]?=some (.mapIter (some bm) since seen c0):=by
      rcases hw1 with rfl | rfl <;> exact f2
     have hset:=MapKept.heap_set (w:=w1) (r:=b) (o':=.mapIter (some bm) since (seen.push e.born) clock) hf2
     have hturn:=hB1.turn (d:=n') (e':=.iter k' V' (l1++l2) (some y)) (w':=ChangeMaps.setBlock w1 b (.mapIter (some bm) since (seen.push e.born) clock)) hn rfl (by rw [e1]; rfl) rfl rfl rfl (by simp [ChangeMaps.setBlock]) (fun i hi=>hset.2 i hi)
      ⟨b,bm,since,seen.push e.born,clock,es,clock,e1,hset.1,f3,f4,f5,f7,f7,by rw [hleft]; exact g1,fun z hz=>by
       injection hz with hz
       subst hz;exact ⟨e,hmem,seen,rfl,rfl,g2,g3,g4⟩⟩
     have hset2:=hturn.set (d:=d') (x:=.tuple #[.bool true,e.key,e.val]) (a:=.tup (.bool true) (.tup (.int k' y.1) (.tup (V'.av y.2) .tnil))) (dc hb.1) ⟨[.bool true,e.key,e.val],rfl,rfl,⟨g2,g3⟩,dG (tm:=#[]) (jG.1 g4),trivial⟩;have hfe:=cS (L:=L) hT hb.2 (.iter k' V' (l1++l2) (some y));exact step _ _ _ hrun ⟨p,β,hset2⟩ (hfe.trans (iD (hd o (by simp) _ hdst) _)) (eG (bU hT (fun t T xs e=>by cases e)) _ _) (h.2 l1 y l2 rfl)
   split at h
   ·rename_i ps S1 h1;obtain ⟨hp,hr⟩:=lv _ _ h;have hfr:=Ag (L:=L) hN hT (hd o (by simp)) h1;exact u9 hss h1 hp hS (fun a' w' hS' hdf=>ka hss hinl hN h9 os S1 K a' w' (fun o' ho'=>hd o' (by simp [ho'])) hfr.2 hS' hr (fun a'' w'' S' g1 g2 g3 g4 g5=>hQ a'' w'' S' g1 (hfr.1.trans g2) g3 g4 (g5.trans hdf)))
   ·exact h.elim
theorem uN {c:Code} {L1:List Nat} {ds:List Deferred} {A:LoopAnn} {body:St->(St->Prop)->(Nat->St->Prop)->(St->Prop)->Prop}
  (core:∀ (L:List Nat) (bad:Nat->Bool) (S:St) (K:St->Prop) (X:Nat->St->Prop) (R:St->Prop) (a:Act) (w:World),body S K X R->Named L bad->(∀ n,Am n=true->bad n=true) ->
   (∀ s,L1.contains s=true->L.contains s=true)->Tidy bad S->Sat M p0 w0 S a.tmps w->a.defers=ds->c.wp P (Ms M p0 w0 ds L bad S K X R) a w)
  {L:List Nat} {bad:Nat->Bool} {S:St} {K:St->Prop} {X:Nat->St->Prop} {R:St->Prop} {a:Act} {w:World} (h:qt A L1 S body K X R) (hN:Named L bad) (h9:∀ n,Am n=true->bad n=true)
  (hL':∀ s,L1.contains s=true->L.contains s=true) (hT:Tidy bad S) (hS:Sat M p0 w0 S a.tmps w) (hd:a.defers=ds):c.wp P (Ms M p0 w0 ds L bad S K X R) a w:=by
 unfold qt at h;split at h
 case isFalse=>exact h.elim
 rename_i hck;simp only [Px] at hck;obtain ⟨⟨hbx,hc2⟩,hc3,hsi⟩:=hck;have hbx:∀ d∈A.cs.flatMap Cr.boxName,S.lock d=false:=fun d hd=>by simpa using PA.1 hbx d hd
 obtain ⟨hbody,hafter⟩:=h
 have h9i:∀ n,Am n=true->bD L1 (mP S A.cs) n=true:=fun n hn=>by
  simp only [bD,Qq];exact .inr hn
 have hsub:∀ n,bD L1 (mP S A.cs) n=true->bad n=true:=vF hN h9 hL' (fun n hn=>by
  unfold mP at hn;split at hn
  ·rename_i x0 ren hg
   exact pR hT (L:=L1) (X:=bk ren) h9 (fun s hs=>by
    have:=hN s (hL' s hs) 0;simpa [bv] using this) A.cs x0 ren hg hc3 n hn
  ·cases hn)
 have hpre:=KO (boxes:=A.cs.flatMap Cr.boxName) hT hsub hL' hbx;refine wp_mono (core L1 (bD L1 (mP S A.cs)) _ _ _ _ a w hbody (om hc2) h9i (fun s hs=>hs) (CD hT hsub) (GO hS) hd) ?_;intro e a' w' hq;cases e with
 | normal =>
  obtain ⟨S',h1,h2,h3,h4,h5⟩:=hq;split at h1
  ·exact h1.elim
  rename_i x' ren' hg';split at h1
  case isFalse=>exact h1.elim
  rename_i hck';obtain ⟨p,β,hB⟩:=h4;have hb:=zI hB hg' hck' hsi;have hag:=xO (cs:=A.cs) h2 x';have hj:=G3 (L0:=L) hT hsub hL' hc3 hbx hg' hck';exact ⟨_,hafter x' h1,hj.1,hj.2,Sat.congr ⟨p,_,hb⟩ hag.1 hag.2.1 hag.2.2,h5⟩
 | exit i =>
  obtain ⟨S',h1,h2,h3,h4,h5⟩:=hq;have:=hpre S' h2 h3;exact ⟨_,h1,this.1,this.2,Sat.congr h4 rfl rfl rfl,h5⟩
 | ret =>
  obtain ⟨S',h1,h2,h3,h4,h5⟩:=hq;have:=hpre S' h2 h3;exact ⟨_,h1,this.1,this.2,Sat.congr h4 rfl rfl rfl,h5⟩
 | _=>exact hq.elim
theorem Bl {ss:Specs} (hss:ss.okA P M w0) {inl:NH} (hinl:Mv P inl M w0) {ann:Nat->Option LoopGen} {ds:List Deferred}:∀ (c:Code) (L:List Nat) (bad:Nat->Bool) (S:St) (K:St->Prop) (X:Nat->St->Prop) (R:St->Prop) (a:Act) (w:World),
  vc P ss inl ann c S K X R->Named L bad->(∀ n,Am n=true->bad n=true)->(∀ s,(da ann c).contains s=true->L.contains s=true)->Tidy bad S->Sat M p0 w0 S a.tmps w->a.defers=ds ->
  c.wp P (Ms M p0 w0 ds L bad S K X R) a w:=by
 intro c
 induction c with
 | skip=>intro L bad S K X R a w h _ _ _ hT hS hd; exact wp_skip ⟨S,h,Fr.refl _ _ _,hT,hS,hd⟩
 | exit id=>intro L bad S K X R a w h _ _ _ hT hS hd; exact wp_exit ⟨S,h,Fr.refl _ _ _,hT,hS,hd⟩
 | ret=>intro L bad S K X R a w h _ _ _ hT hS hd; exact wp_ret ⟨S,h,Fr.refl _ _ _,hT,hS,hd⟩
 | region id ops draw =>
  intro L bad S K X R a w h hN h9 hL hT hS hd;simp only [vc] at h;split at h
  ·rename_i hdr;simp only [Px,PX] at hdr;rw [hdr.1]
   refine wp_region_list (ka hss hinl hN h9 ops.toList S _ a w (fun o ho d hdst=>hL d (by
    simp only [da,PY];exact Q2.2 ⟨o,ho,hdst⟩)) hT hS h (fun a' w' S' h1 h2 h3 h4 h5=>?_))
   have hcl:=fI (L:=L) h3;exact ⟨S'.clean,h1,h2.trans hcl.1,hcl.2,em h4,h5.trans hd⟩
  split at h
  ·rename_i G hG;cases draw
   ·simp at hG
   split at h
   case h_2=>exact h.elim
   rename_i g hgg;split at h
   case isFalse=>exact h.elim
   rename_i hmix;refine uN (L1:=ops.toList.filterMap (·.dst)) (fun L bad S K X R a w h hN h9 hL hT hS hd=>?_) h hN h9 (fun s hs=>hL s (by simpa only [da] using hs)) hT hS hd;have hcl:=fI (L:=L) hT
   refine wp_region_any hmix (zC (M:=M) (p0:=p0) (w0:=w0) hss hN (fun o ho d hdst=>hL d (by
     simp only [PY];exact Q2.2 ⟨o,ho,hdst⟩)) (S0:=S) (K:=fun S'=>K S'.clean) (fun _ _ _ h=>h) (fun S' a' w' h1 h2 h3 h4 h5=>?_) ops.size _ S.clean a _ h hcl.1 hcl.2 ?_ hd)
   ·have hc2:=fI (L:=L) h3;exact ⟨S'.clean,h1,h2.trans hc2.1,hc2.2,em h4,h5⟩
   ·obtain ⟨p,β,h⟩:=em hS;exact ⟨p,β,⟨h.keep.os,h.keep.tape,h.keep.output,h.keep.size,h.keep.block⟩,h.agr,h.old,h.size,h.lhs,h.owns,h.inj,h.env⟩
  cases draw
  ·simp only [PG,P5] at h;split at h
   ·rename_i ps S' hr;obtain ⟨h1,h2⟩:=lv _ _ h
    have hdst:∀ o∈ops.toList,∀ d,o.dst=some d->L.contains d=true:=fun o ho d hdst=>hL d (by
     simp only [da,PY];exact Q2.2 ⟨o,ho,hdst⟩)
    unfold OL at hr;split at hr
    ·rename_i r hr0;injection hr with hr
     subst hr;have hfr:=uU (L:=L) hN ops.toList S S' ps hT hdst hr0;have hcl:=fI (L:=L) hfr.2;refine wp_region_list (k9 (ss:=ss.cutIf _ _) (Specs.okA_cutIf hss) ops.toList S S' ps a w hr0 h1 hS (fun a' w' h3 h4=>?_));exact ⟨S'.clean,h2,hfr.1.trans hcl.1,hcl.2,em h3,h4.trans hd⟩
    ·have hfz:=di (L:=L) (bad:=bad) (eC ss ops S) S hT;have hfr:=uU (L:=L) hN ops.toList _ S' ps hfz.2 hdst hr;have hcl:=fI (L:=L) hfr.2
     have hS':Sat M p0 w0 (S.freeze (eC ss ops S)) a.tmps w:=by
      obtain ⟨p,β,hB⟩:=hS;obtain ⟨p1,_,hB1⟩:=bX (eC ss ops S) S p hB;exact ⟨p1,β,hB1⟩
     refine wp_region_list (k9 (ss:=ss.cutIf _ _) (Specs.okA_cutIf hss) ops.toList _ S' ps a w hr h1 hS' (fun a' w' h3 h4=>?_));exact ⟨S'.clean,h2,(hfz.1.trans hfr.1).trans hcl.1,hcl.2,em h3,h4.trans hd⟩
   ·exact h.elim
  ·simp only [if_true] at h;split at h
   ·rename_i ps S' hr;obtain ⟨h1,h2⟩:=lv _ _ h
    have hfr:=LC (L:=L) hN hT (fun o ho d hdst=>hL d (by
     simp only [da,PY];exact Q2.2 ⟨o,ho,hdst⟩)) hr
    have hcl:=fI (L:=L) hfr.2;refine zH (ss:=ss.cutIf _ _) (Specs.okA_cutIf hss) hr h1 (em hS) (fun a' w' h3 h4=>?_);exact ⟨S'.clean,h2,hfr.1.trans hcl.1,hcl.2,em h3,h4.trans hd⟩
   ·exact h.elim
 | seq c1 c2 ih1 ih2 =>
  intro L bad S K X R a w h hN h9 hL hT hS hd;refine wp_seq (wp_mono (ih1 L bad S _ X R a w h hN h9 (fun s hs=>hL s (by simp only [da]; exact fK s hs)) hT hS hd) ?_);intro e a' w' hq;cases e with
  | normal =>
   obtain ⟨S1,h1,h2,h3,h4,h5⟩:=hq;refine wp_mono (ih2 L bad S1 K X R a' w' h1 hN h9 (fun s hs=>hL s (by simp only [da]; exact bj s hs)) h3 h4 h5) ?_;intro e a'' w'' hq;cases e with
   | normal=>obtain ⟨S2,k1,k2,k3⟩:=hq; exact ⟨S2,k1,h2.trans k2,k3⟩
   | exit i=>obtain ⟨S2,k1,k2,k3⟩:=hq; exact ⟨S2,k1,h2.trans k2,k3⟩
   | ret=>obtain ⟨S2,k1,k2,k3⟩:=hq; exact ⟨S2,k1,h2.trans k2,k3⟩
   | _=>exact hq.elim
  | exit i=>exact hq
  | ret=>exact hq
  | _=>exact hq.elim
 | cond c1 x y ihx ihy =>
  have core:∀ (L:List Nat) (bad:Nat->Bool) (S:St) (K:St->Prop) (X:Nat->St->Prop) (R:St->Prop) (a:Act) (w:World),tt S c1 (vc P ss inl ann x S K X R) (vc P ss inl ann y S K X R)->Named L bad->(∀ n,Am n=true->bad n=true) ->
    (∀ s,(da ann x++da ann y).contains s=true->L.contains s=true)->Tidy bad S->Sat M p0 w0 S a.tmps w->a.defers=ds->(Code.cond c1 x y).wp P (Ms M p0 w0 ds L bad S K X R) a w:=by
   intro L bad S K X R a w h hN h9 hL hT hS hd;unfold tt at h;split at h
   ·rename_i t ht
    have hv:a.eval c1=.bool t:=by
     obtain ⟨p,β,hB⟩:=hS;have:=aU hB (aN _) c1;rw [ht] at this;exact this
    cases ht':t
    ·exact wp_cond_false (by rw [hv,ht']) (ihy L bad S K X R a w (h.2 ht') hN h9 (fun s hs=>hL s (bj s hs)) hT hS hd)
    ·exact wp_cond_true (by rw [hv,ht']) (ihx L bad S K X R a w (h.1 ht') hN h9 (fun s hs=>hL s (fK s hs)) hT hS hd)
   ·rename_i t f ht
    have hv:∃ b,a.eval c1=.bool b/\(b=true->t)/\(b=false->f):=by
     obtain ⟨p,β,hB⟩:=hS;have:=aU hB (aN _) c1;rw [ht] at this;exact this
    obtain ⟨b,hv,h1,h2⟩:=hv;cases hb:b
    ·exact wp_cond_false (by rw [hv,hb]) (ihy L bad S K X R a w (h.2 (h2 hb)) hN h9 (fun s hs=>hL s (bj s hs)) hT hS hd)
    ·exact wp_cond_true (by rw [hv,hb]) (ihx L bad S K X R a w (h.1 (h1 hb)) hN h9 (fun s hs=>hL s (fK s hs)) hT hS hd)
   ·exact h.elim
  intro L bad S K X R a w h hN h9 hL hT hS hd;simp only [vc] at h;split at h
  ·refine core L bad S K X R a w ?_ hN h9 (fun s hs=>hL s (by simp only [da]; exact bj s hs)) hT hS hd;unfold NI at h;unfold tt;split at h
   ·rename_i t ht;rw [ht];cases t
    ·exact ⟨(fun e=>by cases e),fun _=>h⟩
    ·exact ⟨fun _=>h,(fun e=>by cases e)⟩
   ·exact h.elim
  split at h
  ·exact core L bad S K X R a w h hN h9 (fun s hs=>hL s (by simp only [da]; exact bj s hs)) hT hS hd
  ·rename_i G hG;split at h
   case h_2=>exact h.elim
   rename_i g hgg;generalize G.A g.1=A at h;have hL':∀ s,(G.wr++(da ann x++da ann y)).contains s=true->L.contains s=true:=fun s hs=>hL s (by simpa only [da,AZ,hG] using hs)
   generalize hLg:G.wr++(da ann x++da ann y)=L1 at h hL';unfold qt at h;split at h
   case isFalse=>exact h.elim
   rename_i hck;simp only [Px] at hck;obtain ⟨⟨hbx,hc2⟩,hc3,hsi⟩:=hck;have hbx:∀ d∈A.cs.flatMap Cr.boxName,S.lock d=false:=fun d hd=>by simpa using PA.1 hbx d hd
   obtain ⟨hbody,hafter⟩:=h
   have h9i:∀ n,Am n=true->bD L1 (mP S A.cs) n=true:=fun n hn=>by
    simp only [bD,Qq];exact .inr hn
   have hsub:∀ n,bD L1 (mP S A.cs) n=true->bad n=true:=vF hN h9 hL' (fun n hn=>by
    unfold mP at hn;split at hn
    ·rename_i x0 ren hg
     exact pR hT (L:=L1) (X:=bk ren) h9 (fun s hs=>by
      have:=hN s (hL' s hs) 0;simpa [bv] using this) A.cs x0 ren hg hc3 n hn
    ·cases hn)
   have hpre:=KO (boxes:=A.cs.flatMap Cr.boxName) hT hsub hL' hbx;refine wp_mono (core L1 (bD L1 (mP S A.cs)) _ _ _ _ a w hbody (om hc2) h9i (fun s hs=>by rw [<- hLg]; exact bj s hs) (CD hT hsub) (GO hS) hd) ?_;intro e a' w' hq;cases e with
   | normal =>
    obtain ⟨S',h1,h2,h3,h4,h5⟩:=hq;split at h1
    ·exact h1.elim
    rename_i x' ren' hg';split at h1
    case isFalse=>exact h1.elim
    rename_i hck';obtain ⟨p,β,hB⟩:=h4;have hb:=zI hB hg' hck' hsi;have hag:=xO (cs:=A.cs) h2 x';have hj:=G3 (L0:=L) hT hsub hL' hc3 hbx hg' hck';exact ⟨_,hafter x' h1,hj.1,hj.2,Sat.congr ⟨p,_,hb⟩ hag.1 hag.2.1 hag.2.2,h5⟩
   | exit i =>
    obtain ⟨S',h1,h2,h3,h4,h5⟩:=hq;have:=hpre S' h2 h3;exact ⟨_,h1,this.1,this.2,Sat.congr h4 rfl rfl rfl,h5⟩
   | ret =>
    obtain ⟨S',h1,h2,h3,h4,h5⟩:=hq;have:=hpre S' h2 h3;exact ⟨_,h1,this.1,this.2,Sat.congr h4 rfl rfl rfl,h5⟩
   | _=>exact hq.elim
 | block id c ih =>
  have core:∀ (L:List Nat) (bad:Nat->Bool) (S:St) (K:St->Prop) (X:Nat->St->Prop) (R:St->Prop) (a:Act) (w:World),vc P ss inl ann c S K (fun i S'=>bif Nat.beq i id then K S' else X i S') R->Named L bad->(∀ n,Am n=true->bad n=true) ->
    (∀ s,(da ann c).contains s=true->L.contains s=true)->Tidy bad S->Sat M p0 w0 S a.tmps w->a.defers=ds->(Code.block id c).wp P (Ms M p0 w0 ds L bad S K X R) a w:=by
   intro L bad S K X R a w h hN h9 hL hT hS hd;refine wp_block (wp_mono (ih L bad S K _ R a w h hN h9 hL hT hS hd) ?_);intro e a' w' hq;cases e with
   | normal=>exact hq
   | exit i =>
    obtain ⟨S',h1,h2⟩:=hq;simp only [Exit.inBlock];cases hb:Nat.beq i id
    ·rw [hb] at h1;rw [if_neg (fun e=>by subst e; simp at hb)];exact ⟨S',h1,h2⟩
    ·rw [hb] at h1;rw [if_pos (Pw hb)];exact ⟨S',h1,h2⟩
   | ret=>exact hq
   | _=>exact hq.elim
  intro L bad S K X R a w h hN h9 hL hT hS hd;simp only [vc] at h;split at h
  ·exact core L bad S K X R a w h hN h9 (fun s hs=>hL s (by simp only [da]; exact bj s hs)) hT hS hd
  ·rename_i G hG;split at h
   case h_2=>exact h.elim
   rename_i g hgg;exact uN (L1:=G.wr++da ann c) (fun L bad S K X R a w h hN h9 hL hT hS hd=>core L bad S K X R a w h hN h9 (fun s hs=>hL s (bj s hs)) hT hS hd) h hN h9 (fun s hs=>hL s (by simpa only [da,AZ,hG] using hs)) hT hS hd
 | loop c ih =>
  intro L bad S K X R a w h hN h9 hL hT hS hd;simp only [vc] at h;split at h
  ·rename_i G hG;refine wp_loop_ghost (fun n a w=>∃ S',J4 (vc P ss inl ann c) X R n S'/\Fr L bad S S'/\Tidy bad S'/\Sat M p0 w0 S' a.tmps w/\a.defers=ds) (G.wr.length+1) ⟨S,h,Fr.refl _ _ _,hT,hS,hd⟩ ?_;rintro n a1 w1 ⟨S1,h1,h2,h3,h4,h5⟩;cases n with
   | zero=>exact h1.elim
   | succ n =>
    refine wp_mono (ih L bad S1 _ X R a1 w1 h1 hN h9 (fun s hs=>hL s (by simp only [da]; exact bj s hs)) h3 h4 h5) ?_;intro e a' w' hq;cases e with
    | normal =>
     obtain ⟨S',k1,k2,k3,k4,k5⟩:=hq;exact ⟨n,Nat.lt_succ_self _,S',k1,h2.trans k2,k3,k4,k5⟩
    | exit i =>
     obtain ⟨S',k1,k2,k3⟩:=hq;exact ⟨S',k1,h2.trans k2,k3⟩
    | ret =>
     obtain ⟨S',k1,k2,k3⟩:=hq;exact ⟨S',k1,h2.trans k2,k3⟩
    | _=>exact hq.elim
  split at h
  ·rename_i G hG;have hfz:=qU (L:=L) (bad:=bad) G.fz S hT
   have hS1:Sat M p0 w0 (S.closes G.fz) a.tmps w:=by
    obtain ⟨p,β,hB⟩:=hS;obtain ⟨p1,_,hB1⟩:=lU G.fz S p hB;exact ⟨p1,β,hB1⟩
   have hF0:=hfz.1;replace hT:=hfz.2;replace hS:=hS1;clear hfz hS1;generalize S.closes G.fz=S1 at *;split at h
   case h_2=>exact h.elim
   rename_i g hgg;generalize G.A g.1=A at h;unfold J5 at h;split at h
   ·exact h.elim
   rename_i x0 ren hg;split at h
   case isFalse=>exact h.elim
   rename_i hck;simp only [Px] at hck;obtain ⟨⟨hc1,hc2⟩,hc3,hsi⟩:=hck;obtain ⟨hi0,hround⟩:=h;have hNi:=om (X:=bk ren) hc2
   have h9i:∀ n,Am n=true->bD (G.wr++da ann c) (bk ren) n=true:=fun n hn=>by
    simp only [bD,Qq];exact .inr hn
   have hsub:∀ n,bD (G.wr++da ann c) (bk ren) n=true->bad n=true:=vF hN h9 (fun s hs=>hL s (by simpa only [da,AZ,hG] using hs)) (fun n hn=>by
    exact pR hT (L:=G.wr++da ann c) (X:=bk ren) h9 (fun s hs=>by
     have:=hN s (hL s (by simpa only [da,AZ,hG] using hs)) 0;simpa [bv] using this) A.cs x0 ren hg hc3 n hn)
   have hTi:∀ x,Tidy (bD (G.wr++da ann c) (bk ren)) (bf S1 (G.wr++da ann c) (bk ren) A.cs x):=fun x=>I5 hg hc1 x
   have hfin:∀ (x:dk A.cs) (S':St),Fr (G.wr++da ann c) (bD (G.wr++da ann c) (bk ren)) (bf S1 (G.wr++da ann c) (bk ren) A.cs x) S'->Tidy (bD (G.wr++da ann c) (bk ren)) S' ->
     Fr L bad S1 { S' with lock:=S1.lock }/\Tidy bad { S' with lock:=S1.lock }:=fun x S' hF hT' =>
    Lg hT hg hsub hc1 hc3 (fun s hs=>hL s (by simpa only [da,AZ,hG] using hs)) x hF hT'
   have hstart:Sat M p0 w0 (bf S1 (G.wr++da ann c) (bk ren) A.cs x0) a.tmps w:=by
    obtain ⟨p,β,hB⟩:=hS;exact ⟨p,_,zI hB hg hc1 hsi⟩
   refine wp_loop_ghost (fun n a w=>∃ x,A.inv x/\A.mu x=n/\Sat M p0 w0 (bf S1 (G.wr++da ann c) (bk ren) A.cs x) a.tmps w/\a.defers=ds) (A.mu x0) ⟨x0,hi0,rfl,hstart,hd⟩ ?_;rintro n a1 w1 ⟨x,hix,rfl,hSx,hdx⟩;refine wp_mono (ih (G.wr++da ann c) (bD (G.wr++da ann c) (bk ren)) _ _ _ _ a1 w1 (hround x hix) hNi h9i (fun s hs=>bj s hs) (hTi x) hSx hdx) ?_;intro e a' w' hq;cases e with
   | normal =>
    obtain ⟨S',h1,h2,h3,h4,h5⟩:=hq;split at h1
    ·exact h1.elim
    rename_i x' ren' hg';split at h1
    case isFalse=>exact h1.elim
    rename_i hck';have hcz:=qU (L:=G.wr++da ann c) (bad:=bD (G.wr++da ann c) (bk ren)) G.fz S' h3;have h2:=h2.trans hcz.1;obtain ⟨p,β,hB⟩:=h4;obtain ⟨p,_,hB⟩:=lU G.fz S' p hB;have hb:=zI hB hg' hck' hsi;have hag:=zU h2 (x':=x') (fun y s=>DA A.cs x y s) (fun y d=>G0 A.cs x y d) (fun d hd=>m5 A.cs x d hd);exact ⟨_,h1.2,x',h1.1,rfl,Sat.congr ⟨p,_,hb⟩ hag.1.symm hag.2.1.symm (by rw [hag.2.2]; rfl),h5⟩
   | exit i =>
    obtain ⟨S',h1,h2,h3,h4,h5⟩:=hq;have:=hfin x S' h2 h3;exact ⟨_,h1,hF0.trans this.1,this.2,Sat.congr h4 rfl rfl rfl,h5⟩
   | ret =>
    obtain ⟨S',h1,h2,h3,h4,h5⟩:=hq;have:=hfin x S' h2 h3;exact ⟨_,h1,hF0.trans this.1,this.2,Sat.congr h4 rfl rfl rfl,h5⟩
   | _=>exact hq.elim
  ·exact h.elim
 | _=>intro L bad S K X R a w h; exact h.elim
end
def fq (ann:Nat->Option LoopGen) (S:St):St:=match ann 2000000 with
 | some _=>S.entry 900001 .dead
 | none=>S
def sX (P:Program) (S:St):ResultVar->Option AV
 | .tmp t=>some ((S.env t).opn [])
 | .cell t ty=>match S.env t with
  | .loc d 0=>match S.lh d with
   | some (.cells c)=>match fj P ty with
    | some n=>if Nat.beq c.len n then some c else none
    | none=>none
   | _=>none
  | _=>none
def jK (P:Program) (S:St):List ResultVar->Option (List AV)
 | []=>some []
 | r::rs=>match sX P S r,jK P S rs with
  | some a,some avs=>some (a::avs)
  | _,_=>none
def G1 (P:Program) (S:St) (d:Nat) (rvs:List ResultVar) (K:St->Prop) (S':St):Prop :=
 match jK P S' rvs with
 | some avs=>match S'.lh c8 with
  | some (.frame _ env')=>K (r6 S S' env' d avs)
  | _=>False
 | none=>False
def NJ (P:Program) (ss:Specs) (inl:NH) (ann:Nat->Option LoopGen) (f:FuncId) (avs:List AV) (S:St) (d:Nat) (K:St->Prop):Prop :=
 match P.funcs[f]? with
 | none=>False
 | some fn=>match fn.body with
  | none=>False
  | some c=>if Nat.ble avs.length fn.ntmps&&(da ann c).all (Nat.blt · 900000) then
    ∀ tm:Array Value,vc P ss inl ann c (fq ann (dP tm S.clean fn.ntmps avs)) (G1 P S.clean d fn.results.toList K) (fun _ _=>False) (G1 P S.clean d fn.results.toList K)
   else False
def NP (ann:Nat->Option LoopGen) (f:Nat):Nat->Option LoopGen:=fun n=>match ann (1000000000000000 * (f+1)+n) with
 | some a=>some a
 | none=>ann n
def Lr (P:Program) (ss:Specs) (ann:Nat->Option LoopGen):Nat->NH
 | 0=>fun _=>none
 | k+1=>fun f=>match ann (3000000+f) with
  | some _=>if cT P f then some (NJ P ss (Lr P ss (NP ann f) k) (fun n=>ann (100000000 * (f+1)+n)) f) else none
  | none=>none
section
variable {P:Program} {p p0:PH} {w w0:World} {M:Nat->Prop} {S:St} {tm:Array Value} {β:Nat->Value}
theorem B1 (hS:SatB M p0 w0 S tm w p β) {r:ResultVar} {a:AV} (h:sX P S r=some a) :
  ∃ v,(match r with | .tmp t=>pure (tm.getD t undef) | .cell t ty=>(do loadVar ty (<- asAddr (tm.getD t undef))):Sem Value).run P w=.ok v w/\a.val p β tm v:=by
 cases r with
 | tmp t =>
  simp only [sX,Ps] at h;subst h;exact ⟨_,rfl,cZ (aN _) _ _ (hS.env t)⟩
 | cell t ty =>
  simp only [sX] at h;split at h <;> try cases h
  rename_i d he;split at h <;> try cases h
  rename_i c hc;split at h <;> try cases h
  rename_i n hn;split at h <;> simp only [Ps,reduceCtorEq] at h;rename_i hl;subst h;have hl:=Pw hl;have hv:=hS.env t;rw [he] at hv;obtain ⟨b,e1,e2⟩:=hv;obtain ⟨b',cs,ty',e3,e4,e5⟩:=hS.lhs d _ hc;rw [e1] at e3;injection e3 with e3
  injection e3 with e3
  injection e3 with e3
  subst e3;have hlen:=AV.len_cells _ _ e5;obtain ⟨v,h1,h2⟩:=gl (P:=P) (w:=w) (tm:=tm) hn e5 (by omega) (b:=b) (o:=0) (fun j u hu=>by rw [eD e4]; simpa using hu);refine ⟨v,?_,h2⟩;show Sem.run P (do loadVar ty (<- asAddr (tm.getD t undef))) w=_;rw [e2];simpa [Instr.loadAt,Instr.sureAddr,asAddr] using h1
theorem oU (hS:SatB M p0 w0 S tm w p β):∀ (rs:List ResultVar) (avs:List AV),jK P S rs=some avs ->
  ∃ vs:List Value,(rs.mapM (fun r=>(match r with | .tmp t=>pure (tm.getD t undef) | .cell t ty=>(do loadVar ty (<- asAddr (tm.getD t undef))):Sem Value))).run P w=.ok vs w/\vs.length=avs.length /\
   ∀ (i:Nat) a v,avs[i]?=some a->vs[i]?=some v->a.val p β tm v
 | [],avs,h=>by
  simp only [jK,Ps] at h;subst h;exact ⟨[],by simp,rfl,fun i a v ha=>by simp at ha⟩
 | r::rs,avs,h=>by
  simp only [jK] at h;split at h <;> simp only [Ps,reduceCtorEq] at h;rename_i a avs' h1 h2;subst h;obtain ⟨v,k1,k2⟩:=B1 hS h1;obtain ⟨vs,k3,k4,k5⟩:=oU hS rs avs' h2;refine ⟨v::vs,?_,by simp [k4],fun i a' v' ha hv=>?_⟩
  ·simp only [List.mapM_cons,PR];rw [k1];simp only [PL];rw [k3];simp
  ·match i with
   | 0=>simp at ha hv; subst ha; subst hv; exact k2
   | i+1=>exact k5 i a' v' (by simpa using ha) (by simpa using hv)
theorem ry (hS:SatB M p0 w0 S tm w p β) {fn:Func} {avs:List AV} (h:jK P S fn.results.toList=some avs) :
  ∃ vs:List Value,(results fn tm).run P w=.ok (cr vs) w/\vs.length=avs.length/\∀ (i:Nat) a v,avs[i]?=some a->vs[i]?=some v->a.val p β tm v:=by
 obtain ⟨vs,h1,h2,h3⟩:=oU hS fn.results.toList avs h;refine ⟨vs,?_,h2,h3⟩
 have e:(fn.results.mapM (fun r=>(match r with | .tmp t=>pure (tm.getD t undef) | .cell t ty=>(do loadVar ty (<- asAddr (tm.getD t undef))):Sem Value)))=(List.toArray <$> fn.results.toList.mapM (fun r=>(match r with | .tmp t=>pure (tm.getD t undef) | .cell t ty=>(do loadVar ty (<- asAddr (tm.getD t undef))):Sem Value))):=by
  rw [Array.mapM_eq_mapM_toList]
 have hr:(results fn tm)=(do
   let vs <- fn.results.mapM (fun r=>(match r with | .tmp t=>pure (tm.getD t undef) | .cell t ty=>(do loadVar ty (<- asAddr (tm.getD t undef))):Sem Value))
   pure (if h:vs.size=1 then vs[0] else .tuple vs)):=rfl
 rw [hr,e];simp only [PR,Sem.run_map,h1];have:(Result.ok vs w).andThen (fun a w'=>(Result.ok a.toArray w':Result (Array Value)))=.ok vs.toArray w:=rfl
 match vs with
 | []=>rfl
 | [v]=>rfl
 | v::u::vs=>rfl
theorem EE {ann:Nat->Option LoopGen} (h:SatB M p0 w0 S tm w p β):SatB M p0 w0 (fq ann S) tm w p β:=by
 unfold fq;split
 ·exact h.entry trivial (fun b _ hb=>by rename_i h; cases h) (fun _ _ _ _ hb=>by cases hb)
 ·exact h
theorem rq (ann:Nat->Option LoopGen):(fq ann S).lock=S.lock:=by
 unfold fq;split <;> rfl
theorem qA (ann:Nat->Option LoopGen) {n:Nat} (h:n≠900001):(fq ann S).lh n=S.lh n:=by
 unfold fq;split
 ·simp only [St.entry,cg h,PF]
 ·rfl
theorem tF {ann:Nat->Option LoopGen} (h:∀ d tm env,S.lh d≠some (.frame tm env)):∀ d tm env,(fq ann S).lh d≠some (.frame tm env):=by
 intro d tm env hd;by_cases e:d=900001
 ·subst e;unfold fq at hd;split at hd
  ·simp only [St.entry,eu,PZ,Ps,reduceCtorEq] at hd
  ·exact h _ _ _ hd
 ·rw [qA ann e] at hd;exact h _ _ _ hd
theorem Br {ann:Nat->Option LoopGen} {bad:Nat->Bool} (h:Tidy bad S):Tidy bad (fq ann S):=by
 unfold fq;split
 ·exact bU h (fun t T xs e=>by cases e)
 ·exact h
theorem z8 {ss:Specs} (hss:ss.okA P M w0):∀ (ann:Nat->Option LoopGen) (k:Nat),Mv P (Lr P ss ann k) M w0
 | _,0=>fun f G h=>by cases h
 | ann,k+1=>by
  intro f G h;simp only [Lr] at h;split at h <;> try cases h
  split at h <;> simp only [Ps,reduceCtorEq] at h;rename_i hcall;subst h;refine ⟨hcall,?_⟩;intro p0 S avs vs d K tm w p β L bad hG hB hl hv hT hN h9 hd hdn;have ih:=z8 hss (NP ann f) k;unfold NJ at hG;split at hG
  ·exact hG.elim
  rename_i fn hfn;split at hG
  ·exact hG.elim
  rename_i c hc;split at hG
  case isFalse=>exact hG.elim
  rename_i hck;simp only [Px] at hck;have hle:=PN hck.1;have hgo:=hG tm;clear hG;generalize (fun n=>ann (100000000 * (f+1)+n))=annf at *;have hcl:=fI (L:=L) hT;have hBc:SatB M p0 w0 S.clean tm w p β:=⟨hB.keep,hB.agr,hB.old,hB.size,hB.lhs,hB.owns,hB.inj,fun s=>cZ (aN _) _ _ (hB.env s)⟩;refine calls_of_wp hfn hc ?_;have hstart:=EE (ann:=annf) (Jt hBc hl hv hle);have hTs:=Br (ann:=annf) (FX (tm:=tm) hcl.2 (n:=fn.ntmps) (avs:=avs))
  have hvc:=Bl hss ih (M:=M) (p0:=p0) (w0:=w0) (ds:=[]) c (da annf c) (m7 bad) _ _ _ _ { tmps:=vs.toArray++Array.replicate (fn.ntmps - vs.toArray.size) undef,defers:=[] } w
   hgo (FF hck.2) (LI h9) (fun _ h=>h) hTs ⟨p,_,hstart⟩ rfl
  have done:∀ (S':St) (a:Act) (w':World),G1 P S.clean d fn.results.toList K S'->Fr (da annf c) (m7 bad) (fq annf (dP tm S.clean fn.ntmps avs)) S'->Tidy (m7 bad) S'->Sat M p0 w0 S' a.tmps w'->a.defers=[] ->
    a.defers=[]/\∃ v,(results fn a.tmps).run P w'=.ok v w'/\∃ v' S3,Ending.returned v=.returned v'/\K S3/\Fr L bad S S3/\Tidy bad S3/\Sat M p0 w0 S3 (tm.setIfInBounds d v') w':=by
   intro S' a w' hr hF hT' hS hdf;obtain ⟨p1,β1,hB1⟩:=hS;unfold G1 at hr;split at hr
   case h_2=>exact hr.elim
   rename_i avs' has;split at hr
   case h_2=>exact hr.elim
   rename_i tm' env' hfr;obtain ⟨rs,k1,k2,k3⟩:=ry hB1 has
   have hlf:(fq annf (dP tm S.clean fn.ntmps avs)).lh c8=some (.frame tm (fun s=>(S.clean.env s).ren iM vM)):=by
    rw [qA annf (by unfold c8; omega)];simp only [dP,eu,PZ]
   have htm:tm'=tm:=by
    obtain ⟨e2,g1,_⟩:=hF.frames _ _ _ hlf;rw [hfr] at g1;injection g1 with g1
    injection g1 with g1 _
   subst htm
   have hout:=Oc hcl.2 hN hd (fun m=>by
    rw [qA annf (by unfold iM; omega)];exact DB m) hlf (fun m=>by rw [rq]; exact kR m) (fun n hn=>by
    rw [rq] at hn;simp only [dP] at hn;cases hb:Nat.beq n c8
    ·rw [hb] at hn;cases hu:Nat.beq (n % 1000000) 900000
     ·rw [hu] at hn; cases hn
     ·have:=Pw hu;exact .inr ⟨n / 1000000,by unfold iM; omega⟩
    ·exact .inl (Pw hb)) hF hT' hfr avs'
   exact ⟨hdf,cr rs,k1,cr rs,_,rfl,hr,hcl.1.trans hout.1,hout.2,M0 hB1 hfr hBc.size hdn k2 k3⟩
  refine wp_mono hvc ?_;intro e a w' hq;cases e with
  | normal=>obtain ⟨S',h1,h2,h3,h4,h5⟩:=hq; exact done S' a w' h1 h2 h3 h4 h5
  | ret=>obtain ⟨S',h1,h2,h3,h4,h5⟩:=hq; exact done S' a w' h1 h2 h3 h4 h5
  | exit i=>obtain ⟨S',h1,_⟩:=hq; exact h1.elim
  | _=>exact hq.elim
end
def Ty.flat:Ty->Bool
 | .arr _=>false
 | .ref _=>false
 | .fn _ _=>false
 | .map _ _=>false
 | .pair A B=>A.flat&&B.flat
 | _=>true
def RT.flat:RT->Bool
 | .dat T=>T.flat
 | .own _ T=>T.flat
 | .map _ V=>V.flat
def RT.nameOf:RT->AV->Option Nat
 | .own _ _,.own d=>some d
 | .map _ _,.mp d=>some d
 | _,_=>none
def AM:(Ts:List Ty)->gi Ts->Prop
 | [],_=>True
 | [T],x=>T.wf x
 | T::U::Ts,x=>T.wf x.1/\AM (U::Ts) x.2
def Hs:(Ts:List Ty)->gi Ts->Nat->AV
 | [],_,_=>.any
 | [T],x,s=>if Nat.beq s 0 then T.av x else .any
 | T::U::Ts,x,s=>match s with
  | 0=>T.av x.1
  | s+1=>Hs (U::Ts) x.2 s
def oS (Ts:List Ty) (x:gi Ts) (n:Nat):St:={ env:=Hs Ts x,lh:=fun _=>none,n:=n,lock:=fun _=>false }
def qh:List RT->List AV->List Nat
 | .dat _::Rs,a::avs=>a.owns++qh Rs avs
 | .own _ _::Rs,_::avs=>qh Rs avs
 | .map _ _::Rs,_::avs=>qh Rs avs
 | _,_=>[]
def d9:List RT->List AV->List Nat
 | R::Rs,a::avs=>match R.nameOf a with
  | some d=>d::d9 Rs avs
  | none=>d9 Rs avs
 | _,_=>[]
def RT.eqs (S:St) (R:RT) (y:R.den) (a:AV):Option Prop :=
 match R,y with
 | .dat T,y=>(a.toTy false S.lh T).map fun x=>x=y
 | .own e T,ys=>match a with
  | .nils=>some (([]:List T.den)=ys)
  | .own d=>match S.lh d with
   | some (.row e' T' xs)=>if h:T'=T then (if Nat.beq e' e then some ((h ▸ xs:List T.den)=ys) else none) else none
   | _=>none
  | _=>none
 | .map k V,m=>match a with
  | .mp d=>match S.lh d with
   | some (.mapp k' V' m')=>if h:k'=k/\V'=V then some ((h.2 ▸ m':List (Int×V.den))=m) else none
   | _=>none
  | _=>none
def Az (S:St):(Rs:List RT)->eB Rs->List AV->Option (List Prop)
 | [],_,avs=>match avs with
  | []=>some []
  | _::_=>none
 | [R],y,avs=>match avs with
  | [a]=>(R.eqs S y a).map fun p=>[p]
  | _=>none
 | R::U::Rs,y,avs=>match avs with
  | []=>none
  | a::avs=>match R.eqs S y.1 a,Az S (U::Rs) y.2 avs with
   | some p,some ps=>some (p::ps)
   | _,_=>none
def Gp (P:Program) (rvs:List ResultVar) (Rs:List RT) (y:eB Rs) (S:St):Prop :=
 match jK P S rvs with
 | none=>False
 | some avs=>if lu (d9 Rs avs) then match Az (S.freeze (qh Rs avs)) Rs y avs with
   | none=>False
   | some ps=>L9 ps True
  else False
def Oo (P:Program) (ss:Specs) (ann:Nat->Option LoopGen) (fn:Func) (s:Spec):Prop :=
 match fn.body with
 | none=>False
 | some c=>if Nat.ble s.Ts.length fn.ntmps&&(s.al||s.Rs.all RT.flat) then
   ∀ x,AM s.Ts x->s.pre x->vc P ss (Lr P ss ann 4) ann c (fq ann (oS s.Ts x fn.ntmps)) (Gp P fn.results.toList s.Rs (s.F x)) (fun _ _=>False) (Gp P fn.results.toList s.Rs (s.F x))
  else False
section
variable {P:Program} {p p0:PH} {w w0:World} {M:Nat->Prop} {S:St} {tm:Array Value} {β:Nat->Value}
theorem w5 {T:Ty} {x:T.den} {v:Value} (h:T.vholds p x v):T.wf x:=Ty.holds_wf T x _ (oP h)
theorem m8:∀ (Ts:List Ty) (x:gi Ts) (vs:List Value),dd p Ts x vs->AM Ts x
 | [],_,_,_=>trivial
 | [_],_,_,⟨_,_,h⟩=>w5 h
 | _::U::Ts,x,_,⟨_,rest,_,h1,h2⟩=>⟨w5 h1,m8 (U::Ts) x.2 rest h2⟩
theorem jh:∀ (Ts:List Ty) (x:gi Ts) (vs:List Value),dd p Ts x vs->vs.length=Ts.length
 | [],_,vs,h=>by have:vs=[]:=h; rw [this]; rfl
 | [T],x,vs,⟨v,e,h⟩=>by rw [e]; rfl
 | T::U::Ts,x,vs,⟨v,rest,e,h1,h2⟩=>by rw [e,Pz,jh (U::Ts) x.2 rest h2]; rfl
theorem yz:∀ (Ts:List Ty) (x:gi Ts) (vs:List Value),dd p Ts x vs->∀ s,(Hs Ts x s).val p β tm (vs.getD s undef)
 | [],_,_,_,_=>trivial
 | [T],x,vs,⟨v,e,h⟩,s=>by
  subst e;simp only [Hs];split
  ·rename_i hs;rw [Pw hs];exact AV.val_of_val1 (dG (tm:=tm) h)
  ·trivial
 | T::U::Ts,x,vs,⟨v,rest,e,h1,h2⟩,s=>by
  subst e
  match s with
  | 0=>exact AV.val_of_val1 (dG (tm:=tm) h1)
  | s+1=>exact yz (U::Ts) x.2 rest h2 s
theorem HY {Ts:List Ty} {x:gi Ts} {vs:List Value} (hA:Agrees p w) (h:dd p Ts x vs) {n:Nat} (hn:Ts.length<=n) (β:Nat->Value) :
  SatB (fun _=>False) p w (oS Ts x n) (vs.toArray++Array.replicate (n - vs.toArray.size) undef) w p β:=by
 have hl:=jh Ts x vs h;refine ⟨⟨rfl,rfl,rfl,PP _,fun _ _ _=>rfl⟩,hA,fun b cs hb=>.inr (.inr hb),?_,fun d e hd=>(by cases hd),fun d e b hd=>(by cases hd),fun d d' e e' b hd=>(by cases hd),fun s=>?_⟩
 ·simp [oS,hl]; omega
 ·have:=yz (tm:=(vs.toArray++Array.replicate (n - vs.toArray.size) undef)) (β:=β) Ts x vs h s
  have e:(vs.toArray++Array.replicate (n - vs.toArray.size) undef).getD s undef=vs.getD s undef:=by
   simp only [Sc,Array.getElem?_append,Qx,List.getElem?_toArray,List.getD];split
   ·rfl
   ·rename_i hs;have h1:vs[s]?=none:=List.getElem?_eq_none (by omega);rw [h1];simp only [Array.getElem?_replicate];split <;> rfl
  rw [e];exact this
theorem mU:∀ (T:Ty) (x:T.den) (cs:List Value) {p q:PH},T.flat=true->T.holds p x cs->T.holds q x cs
 | .int _,_,_,_,_,_,h=>h
 | .bool,_,_,_,_,_,h=>h
 | .str,_,_,_,_,_,h=>h
 | .arr _,_,_,_,_,h,_=>by cases h
 | .ref _,_,_,_,_,h,_=>by cases h
 | .fn _ _,_,_,_,_,h,_=>by cases h
 | .map _ _,_,_,_,_,h,_=>by cases h
 | .nil,_,_,_,_,_,h=>h
 | .pair A B,_,_,_,_,hf,⟨c1,c2,e,h1,h2⟩=>by
  simp only [Ty.flat,Px] at hf;exact ⟨c1,c2,e,mU A _ _ hf.1 h1,mU B _ _ hf.2 h2⟩
theorem w6 {T:Ty} {x:T.den} {v:Value} {q:PH} (h:T.vholds p x v) (k:∀ cs,T.holds p x cs->T.holds q x cs):T.vholds q x v:=by
 cases T with
 | pair A B=>obtain ⟨cs,e,hc⟩:=h; exact ⟨cs,e,k _ hc⟩
 | int kd=>exact k _ h
 | bool=>exact k _ h
 | str=>exact k _ h
 | arr T=>exact k _ h
 | nil=>exact k _ h
 | ref T=>exact k _ h
 | fn A B=>exact k _ h
 | map kd V=>exact k _ h
theorem yr (hS:SatB (fun _=>False) p0 w0 S tm w p β) {R:RT} {y:R.den} {a:AV} {v:Value} {q:Prop} (h:R.eqs S y a=some q) (hq:q) (ha:a.val p β tm v) {r f:PH} (hr:R.flat=true\/PH.le p r) (hf:∀ b,p b=none->f b=none) :
  R.holds w w0.heap.size r f y v/\∀ b,R.blk v=some b->∃ d,R.nameOf a=some d/\β d=v/\∃ e,S.lh d=some e/\e.live=true:=by
 cases R with
 | dat T =>
  obtain ⟨x,hx,h0⟩:=Py.1 h
  have hxy:x=y:=by
   have:(x=y)=q:=h0;rw [this]; exact hq
  subst hxy;have h1:=cP hS (rows:=false) hx ha;simp only [PG,P5] at h1;refine ⟨w6 h1 (fun cs hc=>?_),fun b hb=>by cases hb⟩;rcases hr with hr | hr
  ·exact mU T x cs hr hc
  ·exact Ty.holds_mono hr T x cs hc
 | own e T =>
  have hrow:∀ {xs:List T.den} {l:List Value},aM (T.holds p) xs l->aM (T.holds r) xs l:=fun hh=>dx (fun x cs hc=>by
   rcases hr with hr | hr
   ·exact mU T x cs hr hc
   ·exact Ty.holds_mono hr T x cs hc) _ _ hh
  unfold RT.eqs at h;simp only at h;split at h
  ·injection h with h
   have hxy:([]:List T.den)=y:=by rw [h]; exact hq
   subst hxy;have hv:v=.slice none 0 0:=ha;subst hv;exact ⟨⟨⟨[],Rp w _ e T.size,rfl,by simp⟩,fun b hb=>by cases hb⟩,fun b hb=>by cases hb⟩
  ·rename_i d;split at h <;> try cases h
   rename_i e' T' xs hd;split at h <;> try cases h
   rename_i hT;subst hT;split at h <;> simp only [Ps,reduceCtorEq] at h;rename_i he;have he:=Pw he;subst he
   have hxy:xs=y:=by
    have:(xs=y)=q:=h;rw [this]; exact hq
   subst hxy;have hv:v=β d:=ha;subst hv;obtain ⟨l,g1,g2,g3⟩:=hS.lhs d _ hd;have hown:=fun b hb=>hS.owns d _ b hd rfl hb
   refine ⟨⟨⟨l,⟨g1.1,?_⟩,hrow g2,g3⟩,fun b hb=>hf b (hown b hb).2⟩,fun b hb=>⟨d,rfl,rfl,_,hd,rfl⟩⟩;rcases g1.2 with h1 | ⟨g,cap,cur,e1,_,e3⟩
   ·exact .inl h1
   ·refine .inr ⟨g,cap,cur,e1,?_,e3⟩;rcases (hown g (by rw [e1]; rfl)).1 with h2 | h2
    ·exact h2.elim
    ·exact h2
  ·cases h
 | map k V =>
  unfold RT.eqs at h;simp only at h;split at h <;> try cases h
  rename_i d;split at h <;> try cases h
  rename_i k' V' m hd;split at h <;> simp only [Ps,reduceCtorEq] at h;rename_i hT;obtain ⟨rfl,rfl⟩:=hT
  have hxy:m=y:=by
   have:(m=y)=q:=h;rw [this]; exact hq
  subst hxy;have hv:v=β d:=ha;subst hv;obtain ⟨g,es,clock,g1,g2,g3,g4⟩:=hS.lhs d _ hd;have hown:=fun b hb=>hS.owns d _ b hd rfl hb
  refine ⟨⟨⟨g,es,clock,g1,?_,g2,g3,cf (fun x _=>dH (fun cs hc=>?_)) _ _ g4⟩,fun b hb=>hf b (hown b hb).2⟩,fun b hb=>⟨d,rfl,rfl,_,hd,rfl⟩⟩
  ·rcases (hown g (by rw [g1]; rfl)).1 with h2 | h2
   ·exact h2.elim
   ·exact h2
  ·rcases hr with hr | hr
   ·exact mU V' x cs hr hc
   ·exact Ty.holds_mono hr V' x cs hc
theorem p8 (hS:SatB (fun _=>False) p0 w0 S tm w p β) {r f:PH} (hf:∀ b,p b=none->f b=none):∀ (Rs:List RT) (y:eB Rs) (avs:List AV) (ps:List Prop) (vs:List Value) (bs:List Nat),Az S Rs y avs=some ps->(∀ q∈ps,q) ->
  (Rs.all RT.flat=true\/PH.le p r)->vs.length=avs.length->(∀ (i:Nat) a v,avs[i]?=some a->vs[i]?=some v->a.val p β tm v)->(d9 Rs avs).Nodup ->
  (∀ d∈d9 Rs avs,∀ b e,b8 (β d)=some b->S.lh d=some e->e.live=true->b ∉ bs)->jp w w0.heap.size r f Rs y vs bs
 | [],y,avs,ps,vs,bs,h,_,_,hl,_,_,_=>by
  cases avs with
  | nil=>exact PO hl
  | cons a avs=>cases h
 | [R],y,avs,ps,vs,bs,h,hps,hfl,hl,hv,hn,hb=>by
  match avs,h,hl,hv,hn,hb with
  | [a],h,hl,hv,hn,hb =>
   match vs,hl,hv with
   | [v],_,hv =>
    obtain ⟨q,hq,h0⟩:=Py.1 h;subst h0;obtain ⟨h1,h2⟩:=yr (r:=r) (f:=f) hS hq (hps q (by simp)) (hv 0 a v rfl rfl) (hfl.imp (fun h=>by simpa using h) id) hf;refine ⟨v,rfl,h1,fun b hbk=>?_⟩;obtain ⟨d,hnm,rfl,e,hd,hlv⟩:=h2 b hbk;exact hb d (by simp [d9,hnm]) b e (by cases R <;> first | exact hbk | cases hbk) hd hlv
 | R::U::Rs,y,avs,ps,vs,bs,h,hps,hfl,hl,hv,hn,hb=>by
  match avs,h,hl,hv,hn,hb with
  | a::avs,h,hl,hv,hn,hb =>
   match vs,hl,hv with
   | v::vs,hl,hv =>
    unfold Az at h;simp only at h;split at h <;> simp only [Ps,reduceCtorEq] at h;rename_i q qs hq hqs;subst h;obtain ⟨h1,h2⟩:=yr (r:=r) (f:=f) hS hq (hps q (by simp)) (hv 0 a v rfl rfl) (hfl.imp (fun h=>by simp only [Qv,Px] at h; exact h.1) id) hf;have hfl':(U::Rs).all RT.flat=true\/PH.le p r:=hfl.imp (fun h=>by simp only [Qv,Px] at h |-; exact h.2) id;have hv':∀ (i:Nat) a v,avs[i]?=some a->vs[i]?=some v->a.val p β tm v:=fun i a v ha hb=>hv (i+1) a v (by simpa using ha) (by simpa using hb)
    have hnm:∀ d,R.nameOf a=some d->d9 (R::U::Rs) (a::avs)=d::d9 (U::Rs) avs:=fun d e=>by simp only [d9,e]
    have hsub:∀ d∈d9 (U::Rs) avs,d∈d9 (R::U::Rs) (a::avs):=by
     intro d hd;unfold d9;split
     ·exact P1 _ hd
     ·exact hd
    have hn':(d9 (U::Rs) avs).Nodup:=by
     unfold d9 at hn;split at hn
     ·exact (Q9.1 hn).2
     ·exact hn
    have hbo:∀ b,R.blk v=some b->b8 v=some b:=fun b hb=>by cases R <;> first | exact hb | cases hb
    refine ⟨v,vs,rfl,h1,fun b hbk=>?_,?_⟩
    ·obtain ⟨d,ha,hβ,e,hd,hlv⟩:=h2 b hbk;exact hb d (by rw [hnm d ha]; simp) b e (by rw [hβ]; exact hbo b hbk) hd hlv
    ·refine p8 hS hf (U::Rs) y.2 avs qs vs _ hqs (fun q hq=>hps q (by simp [hq])) hfl' (by simpa using hl) hv' hn' (fun d' hd' b' e1 hb' hlh hlv=>?_);cases hbv:R.blk v with
     | none=>exact hb d' (hsub d' hd') b' e1 hb' hlh hlv
     | some b0 =>
      simp only [PD,not_or];refine ⟨fun e=>?_,hb d' (hsub d' hd') b' e1 hb' hlh hlv⟩;subst e;obtain ⟨d,ha,hβ,e,hd,hlv2⟩:=h2 b' hbv;have:=hS.inj d' d e1 e b' hlh hlv hd hlv2 hb' (by rw [hβ]; exact hbo _ hbv);subst this;rw [hnm d' ha] at hn;exact (Q9.1 hn).1 hd'
theorem LD {ss:Specs} (hss:ss.ok P) {ann:Nat->Option LoopGen} {f:FuncId} {fn:Func} {s:Spec} (hfn:P.funcs[f]?=some fn) (h:Oo P ss ann fn s):s.ok P f:=by
 unfold Oo at h;split at h
 ·exact h.elim
 rename_i c hc;split at h
 case isFalse=>exact h.elim
 rename_i hck;simp only [Px] at hck;have hn:=PN hck.1;intro p w vs x hLd hA hargs hpre;have hss:ss.okA P (fun _=>False) w:=⟨hss,hLd,fun _ _ h=>h⟩;refine calls_of_wp hfn hc ?_;have hstart0:=HY (β:=fun _=>undef) hA hargs hn
 have hstart:SatB (fun _=>False) p w (fq ann (oS s.Ts x fn.ntmps)) (vs.toArray++Array.replicate (fn.ntmps - vs.toArray.size) undef) w p (fun _=>undef):=by
  unfold fq;split
  ·exact hstart0.entry trivial (fun b hb=>by cases hb) (fun _ _ _ _ hb=>by cases hb)
  ·exact hstart0
 have hlock:(fq ann (oS s.Ts x fn.ntmps)).lock=fun _=>false:=by
  unfold fq;split <;> rfl
 have hvc:=Bl hss (z8 hss ann 4) (M:=fun _=>False) (p0:=p) (w0:=w) (ds:=[]) c (da ann c) (fun _=>true) _ _ _ _ { tmps:=vs.toArray++Array.replicate (fn.ntmps - vs.toArray.size) undef,defers:=[] } w
  (h x (m8 _ _ _ hargs) hpre) (fun _ _ _=>rfl) (fun _ _=>rfl) (fun _ h=>h) ⟨fun d hd=>(by rw [hlock] at hd; cases hd),fun _ _ _ _ _ _=>rfl,fun d tm env hd=>absurd hd (tF (fun _ _ _ h=>by cases h) d tm env)⟩ ⟨p,_,hstart⟩ rfl
 have done:∀ (S':St) (a:Act) (w':World),Gp P fn.results.toList s.Rs (s.F x) S'->Sat (fun _=>False) p w S' a.tmps w'->a.defers=[] ->
   a.defers=[]/\∃ v,(results fn a.tmps).run P w'=.ok v w'/\∃ (rs:List Value) (q:PH),Ending.returned v=.returned (cr rs)/\Keep (fun _=>False) w w'/\(∀ b cs,q b=some cs->w.heap.size<=b)/\Agrees q w' /\
    jp w' w.heap.size (if s.al then p.union q else q) q s.Rs (s.F x) rs []:=by
  intro S' a w' hr hS hd;obtain ⟨p1,β,hB⟩:=hS;unfold Gp at hr;split at hr
  ·exact hr.elim
  rename_i avs has;split at hr
  case isFalse=>exact hr.elim
  rename_i hdist;split at hr
  ·exact hr.elim
  rename_i ps hps;obtain ⟨hpsall,_⟩:=lv _ _ hr;obtain ⟨rs,k1,k2,k3⟩:=ry hB has;obtain ⟨p2,hle,hB2⟩:=bX (qh s.Rs avs) S' p1 hB;refine ⟨hd,cr rs,k1,rs,fun b=>if w.heap.size<=b then p2 b else none,rfl,hB.keep,fun b cs hb=>?_,fun b cs hb=>?_,?_⟩
  ·by_cases e:w.heap.size<=b
   ·exact e
   ·simp only [e,P5] at hb; cases hb
  ·by_cases e:w.heap.size<=b
   ·simp only [e,if_true] at hb; exact hB2.agr b cs hb
   ·simp only [e,P5] at hb; cases hb
  ·refine p8 hB2 (fun b hb=>by by_cases e:w.heap.size<=b <;> simp [e,hb]) s.Rs (s.F x) avs ps rs [] hps hpsall ?_ k2 (fun i a' v ha hv=>AV.val_mono hle _ _ (k3 i a' v ha hv)) (io hdist) (fun _ _ b _ _ _ _=>by simp);cases hal:s.al
   ·left;have:=hck.2;rw [hal] at this;simpa using this
   ·right;simp only [if_true];intro b cs hb;unfold PH.union;rcases hB2.old b cs hb with h1 | h1 | h1
    ·cases hpb:p b with
     | none=>simp [h1,hb]
     | some c' =>
      have:=hA.lt hpb;omega
    ·exact h1.elim
    ·simp [h1]
 refine wp_mono hvc ?_;intro e a w' hq;cases e with
 | normal=>obtain ⟨S',h1,_,_,h4,h5⟩:=hq; exact done S' a w' h1 h4 h5
 | ret=>obtain ⟨S',h1,_,_,h4,h5⟩:=hq; exact done S' a w' h1 h4 h5
 | exit i=>obtain ⟨S',h1,_⟩:=hq; exact h1.elim
 | _=>exact hq.elim
end
def j6:(Ts:List Ty)->gi Ts->List AV
 | [],_=>[]
 | [T],x=>[(T.av x).opn []]
 | T::U::Ts,x=>(T.av x.1).opn []::j6 (U::Ts) x.2
def qu (a:AV) (e:LE):St:={ env:=fun s=>bif Nat.beq s 0 then a else .any,lh:=fun d=>bif Nat.beq d 0 then some e else none,n:=2,lock:=fun _=>false }
def AV.parts:AV->Option (List AV)
 | .tnil=>some []
 | .tup a b=>match b.parts with
  | some avs=>some (a::avs)
  | none=>none
 | _=>none
def o9 (Rs:List RT) (a:AV):Option (List AV):=match Rs with
 | [_]=>some [a]
 | _=>match a.parts with
  | some [_]=>none
  | r=>r
def L7 (lh:Nat->Option LE):(R:RT)->AV->Option R.den
 | .dat T,a=>a.toTy false lh T
 | _,_=>none
def AC (lh:Nat->Option LE):(Rs:List RT)->List AV->Option (eB Rs)
 | [],avs=>match avs with
  | []=>some ()
  | _=>none
 | [R],avs=>match avs with
  | [a]=>L7 lh R a
  | _=>none
 | R::U::Rs,avs=>match avs with
  | a::avs=>match L7 lh R a,AC lh (U::Rs) avs with
   | some x,some y=>some (x,y)
   | _,_=>none
  | _=>none
def Md (r:BoxFn) (z:eB r.Rs×r.T.den) (S:St):Prop :=
 match o9 r.Rs (S.env 1) with
 | none=>False
 | some avs=>match (S.freeze (dj S 0++avs.flatMap AV.owns)).lh 0 with
  | some (.cells c)=>match AC (S.freeze (dj S 0++avs.flatMap AV.owns)).lh r.Rs avs,c.toTy false (S.freeze (dj S 0++avs.flatMap AV.owns)).lh r.T with
   | some u,some v=>u=z.1/\v=z.2
   | _,_=>False
  | _=>False
def Aj (P:Program) (ss:Specs) (ann:Nat->Option LoopGen) (f:FuncId) (r:BoxFn):Prop :=
 match Lr P ss ann 5 f with
 | none=>False
 | some G=>∀ x y,r.T.wf x->AM r.Ts y->r.pre x y->G (.loc 0 0::j6 r.Ts y) (qu (.loc 0 0) (.cells (r.T.av x))) 1 (Md r (r.F x y))
section
variable {P:Program} {p p0:PH} {w w0:World} {M:Nat->Prop} {tm:Array Value} {β:Nat->Value}
theorem nT:∀ (Ts:List Ty) (x:gi Ts),(j6 Ts x).length=Ts.length
 | [],_=>rfl
 | [_],_=>rfl
 | _::U::Ts,x=>by simp only [j6,Pz,nT (U::Ts) x.2]
theorem vI:∀ (Ts:List Ty) (x:gi Ts) (vs:List Value),dd p Ts x vs->∀ (i:Nat) a v,(j6 Ts x)[i]?=some a->vs[i]?=some v->a.val p β tm v/\a.noGd=true
 | [],_,_,_,i,a,v,h,_=>by simp [j6] at h
 | [T],x,vs,⟨v0,e,h⟩,i,a,v,ha,hv=>by
  subst e;cases i with
  | zero =>
   simp only [j6,List.getElem?_cons_zero,Ps] at ha hv;subst ha hv;exact ⟨cZ (aN _) _ _ (AV.val_of_val1 (dG (tm:=tm) h)),cm _ _⟩
  | succ i=>simp [j6] at ha
 | T::U::Ts,x,vs,⟨v0,rest,e,h1,h2⟩,i,a,v,ha,hv=>by
  subst e;cases i with
  | zero =>
   simp only [j6,List.getElem?_cons_zero,Ps] at ha hv;subst ha hv;exact ⟨cZ (aN _) _ _ (AV.val_of_val1 (dG (tm:=tm) h1)),cm _ _⟩
  | succ i=>exact vI (U::Ts) x.2 rest h2 i a v (by simpa [j6] using ha) (by simpa using hv)
theorem CG:∀ (a:AV) (avs:List AV) (vs:List Value),a.parts=some avs->a.vals p β vs->avs.length=vs.length/\∀ (i:Nat) a v,avs[i]?=some a->vs[i]?=some v->a.val p β tm v:=by
 intro a
 induction a with
 | tnil =>
  intro avs vs h hv;simp only [AV.parts,Ps] at h;subst h;cases vs with
  | nil=>exact ⟨rfl,fun i a v h=>by simp at h⟩
  | cons v vs=>exact absurd hv (by simp [AV.vals])
 | tup a b _ ih =>
  intro avs vs h hv;simp only [AV.parts] at h;split at h <;> simp only [Ps,reduceCtorEq] at h;rename_i bs hb;subst h;cases vs with
  | nil=>exact absurd hv (by simp [AV.vals])
  | cons v vs =>
   obtain ⟨h1,h2⟩:a.val1 p β v/\b.vals p β vs:=by simpa only [AV.vals] using hv
   obtain ⟨k1,k2⟩:=ih bs vs hb h2;refine ⟨by simp [k1],fun i a' v' ha' hv'=>?_⟩;cases i with
   | zero =>
    simp only [List.getElem?_cons_zero,Ps] at ha' hv';subst ha' hv';exact AV.val_of_val1 h1
   | succ i=>exact k2 i a' v' (by simpa using ha') (by simpa using hv')
 | _=>intro avs vs h; simp only [AV.parts,reduceCtorEq] at h
theorem tW {Rs:List RT} {a:AV} {avs:List AV} {v:Value} (h:o9 Rs a=some avs) (hv:a.val p β tm v) :
  ∃ rs,cr rs=v/\avs.length=rs.length/\∀ (i:Nat) a v,avs[i]?=some a->rs[i]?=some v->a.val p β tm v:=by
 have hone:∀ x,o9 [x] a=some [a]:=fun _=>rfl
 have many:∀ {r:Option (List AV)},(match a.parts with | some [_]=>none | r=>r)=some avs->a.parts=some avs/\avs.length≠1:=by
  intro _ h;split at h
  ·cases h
  ·rename_i hne;refine ⟨h,fun e=>?_⟩
   match avs,e with
   | [x],_=>exact hne x h
 have rest:a.parts=some avs->avs.length≠1->∃ rs,cr rs=v/\avs.length=rs.length/\∀ (i:Nat) a v,avs[i]?=some a->rs[i]?=some v->a.val p β tm v:=by
  intro h hn
  have hvs:∃ vs:List Value,v=.tuple vs.toArray/\a.vals p β vs:=by
   cases a <;> simp only [AV.parts,reduceCtorEq] at h
   ·exact hv
   ·exact ⟨[],hv,trivial⟩
  obtain ⟨vs,rfl,h1⟩:=hvs;obtain ⟨k1,k2⟩:=CG (tm:=tm) a avs vs h h1;refine ⟨vs,?_,k1,k2⟩
  match vs,k1 with
  | [],_=>rfl
  | [x],k1=>exact absurd k1 hn
  | x::y::zs,_=>rfl
 match Rs,h with
 | [],h=>obtain ⟨h1,h2⟩:=many (r:=none) h; exact rest h1 h2
 | [_],h =>
  simp only [o9,Ps] at h;subst h;refine ⟨[v],rfl,rfl,fun i a' v' ha hv'=>?_⟩;cases i with
  | zero =>
   simp only [List.getElem?_cons_zero,Ps] at ha hv';subst ha hv';exact hv
  | succ i=>simp at ha
 | _::_::_,h=>obtain ⟨h1,h2⟩:=many (r:=none) h; exact rest h1 h2
theorem Ju {S:St} (hS:SatB M p0 w0 S tm w p β) {B:Nat} {r q:PH} (hr:PH.le p r):∀ (Rs:List RT) (u:eB Rs) (avs:List AV) (vs:List Value) (bs:List Nat),AC S.lh Rs avs=some u->avs.length=vs.length ->
  (∀ (i:Nat) a v,avs[i]?=some a->vs[i]?=some v->a.val p β tm v)->jp w B r q Rs u vs bs:=by
 have one:∀ (R:RT) (x:R.den) (a:AV) (v:Value),L7 S.lh R a=some x->a.val p β tm v->R.holds w B r q x v/\R.blk v=none:=by
  intro R x a v h hv;cases R with
  | dat T =>
   have h1:=cP hS (rows:=false) h hv;simp only [PG,P5] at h1;exact ⟨w6 h1 (fun cs hc=>Ty.holds_mono hr T x cs hc),rfl⟩
  | own e T=>cases h
  | map k V=>cases h
 intro Rs
 induction Rs with
 | nil =>
  intro u avs vs bs h hl _;cases avs with
  | nil=>exact PO hl.symm
  | cons a avs=>cases h
 | cons R Rs ih =>
  intro u avs vs bs h hl hv;cases Rs with
  | nil =>
   match avs,h,hl,hv with
   | [a],h,hl,hv =>
    match vs,hl,hv with
    | [v],_,hv =>
     obtain ⟨h1,h2⟩:=one R u a v h (hv 0 a v rfl rfl);exact ⟨v,rfl,h1,(fun b hb=>by rw [h2] at hb; cases hb)⟩
  | cons U Rs =>
   match avs,h,hl,hv with
   | a::avs,h,hl,hv =>
    match vs,hl,hv with
    | v::vs,hl,hv =>
     unfold AC at h;simp only at h;split at h
     case h_2=>cases h
     rename_i x y hx hy;injection h with h
     subst h;obtain ⟨h1,h2⟩:=one R x a v hx (hv 0 a v rfl rfl);refine ⟨v,vs,rfl,h1,(fun b hb=>by rw [h2] at hb; cases hb),?_⟩;exact ih y avs vs _ hy (by simpa using hl) (fun i a' v' ha' hv'=>hv (i+1) a' v' (by simpa using ha') (by simpa using hv'))
theorem JC {ss:Specs} (hss:ss.ok P) {ann:Nat->Option LoopGen} {f:FuncId} {r:BoxFn} (h:Aj P ss ann f r):r.ok P f:=by
 unfold Aj at h;split at h
 ·exact h.elim
 rename_i G hG;intro p w b cs t x vs y hLd htab hA hb hx hpb hargs hpre;have hss:ss.okA P (fun i=>i=b) w:=⟨hss,hLd,fun k hk e=>htab k hk e⟩;obtain ⟨hcal,hin⟩:=z8 hss ann 5 f G hG
 have hS:SatB (fun i=>i=b) p w (qu (.loc 0 0) (.cells (r.T.av x))) #[.pointer (some ⟨b,0,none⟩),undef] w p (fun _=>.pointer (some ⟨b,0,none⟩)):=by
  refine ⟨⟨rfl,rfl,rfl,PP _,fun _ _ _=>rfl⟩,hA,fun b cs hb=>.inr (.inr hb),rfl,fun d e hd=>?_,fun d e b' hd _ hb'=>?_,fun d d' e e' b' hd _ hd' _ _ _=>?_,fun s=>?_⟩
  ·simp only [qu] at hd;cases hd0:Nat.beq d 0
   ·rw [hd0] at hd; cases hd
   ·rw [hd0] at hd;simp only [PZ,Ps] at hd;subst hd;exact ⟨b,cs,t,rfl,hb,Ty.av_cells _ _ _ hx⟩
  ·simp only [b8,Ps] at hb';subst hb';exact ⟨.inl rfl,hpb⟩
  ·simp only [qu] at hd hd';cases hd0:Nat.beq d 0
   ·rw [hd0] at hd; cases hd
   ·cases iC:Nat.beq d' 0
    ·rw [iC] at hd'; cases hd'
    ·rw [Pw hd0,Pw iC]
  ·cases s with
   | zero=>exact ⟨b,rfl,rfl⟩
   | succ s=>trivial
 have hc:=hin p _ (.loc 0 0::j6 r.Ts y) (.pointer (some ⟨b,0,none⟩)::vs) 1 _ _ w p _ [1] (fun n=>!Nat.beq n 0) (h x y (Ty.holds_wf r.T x _ hx) (m8 _ _ _ hargs) hpre) hS
  (by rw [Pz,Pz,nT,jh _ _ _ hargs])
  (fun i a v ha hv=>by
   cases i with
   | zero =>
    simp only [List.getElem?_cons_zero,Ps] at ha hv;subst ha hv;exact ⟨⟨b,rfl,rfl⟩,rfl⟩
   | succ i=>exact vI r.Ts y vs hargs i a v (by simpa using ha) (by simpa using hv))
  ⟨(fun d hd=>by cases hd),(fun d e T xs hd _=>by
   simp only [qu] at hd;cases hd0:Nat.beq d 0
   ·rfl
   ·rw [hd0] at hd; cases hd),(fun d tm env hd=>by
   simp only [qu] at hd;cases hd0:Nat.beq d 0
   ·rw [hd0] at hd; cases hd
   ·rw [hd0] at hd; cases hd)⟩
  (fun d hd k=>by
   have:d=1:=by simpa using hd
   subst this;simp only [bv,PX];exact cg (by omega))
  (fun n hn=>by
   cases h0:Nat.beq n 0
   ·rfl
   ·rw [Pw h0] at hn;exact absurd hn (by decide))
  rfl (show 1<2 by decide)
 refine hc.mono ?_;rintro e w' ⟨v,S3,rfl,hK,hF,_,p1,β1,hB⟩;unfold Md at hK;split at hK
 ·exact hK.elim
 rename_i avs havs;have henv:S3.env 0=.loc 0 0:=hF.env 0 rfl ⟨rfl,rfl⟩;obtain ⟨p2,hle,hB2⟩:=bX (dj S3 0++avs.flatMap AV.owns) S3 p1 hB;have hen:(S3.freeze (dj S3 0++avs.flatMap AV.owns)).env=S3.env:=(cN _ _).1;generalize S3.freeze (dj S3 0++avs.flatMap AV.owns)=S4 at *;split at hK
 case h_2=>exact hK.elim
 rename_i c hc0;split at hK
 case h_2=>exact hK.elim
 rename_i u z hu hz;obtain ⟨hK1,hK2⟩:=hK;have h0:=hB2.env 0;rw [hen,henv] at h0;obtain ⟨b1,e1,e2⟩:=h0
 have e3:b1=b:=by
  have:(Value.pointer (some ⟨b,0,none⟩))=.pointer (some ⟨b1,0,none⟩):=e2;injection this with this
  injection this with this
  injection this with this
  exact this.symm
 subst e3;obtain ⟨b2,cs',t',g1,g2,g3⟩:=hB2.lhs 0 _ hc0;rw [e1] at g1;injection g1 with g1
 injection g1 with g1
 injection g1 with g1
 subst g1;have hp2:p2 b1=none:=(hB2.owns 0 _ b1 hc0 rfl (by rw [e1]; rfl)).2
 have hle2:PH.le p2 (p.union (fun b=>if w.heap.size<=b then p2 b else none)):=by
  intro k cs hk;unfold PH.union;rcases hB2.old k cs hk with h1 | h1 | h1
  ·have hpk:p k=none:=by
    cases hpk:p k with
    | none=>rfl
    | some c' =>
     have:=hA.lt hpk;omega
   rw [hpk];simp only [h1,if_true];exact hk
  ·have h1:k=b1:=h1;rw [h1,hp2] at hk;cases hk
  ·rw [h1]
 have hcz:=be hB2 (rows:=false) r.T c z cs'.toList hz g3;simp only [PG,P5] at hcz;rw [hK2] at hcz;have h1:=hB2.env 1;rw [hen] at h1;obtain ⟨rs,q1,q2,q3⟩:=tW havs h1;have hk:=hB2.keep;refine ⟨rs,fun b=>if w.heap.size<=b then p2 b else none,cs',t',by rw [q1]; rfl,⟨hk.os,hk.tape,hk.output,hk.size,fun k hk1 hk2=>hk.block k hk1 (fun e=>hk2 (congrArg some e))⟩,fun b cs hb=>?_,fun b cs hb=>?_,g2,Ty.holds_mono hle2 _ _ _ hcz,?_⟩
 ·by_cases e:w.heap.size<=b
  ·exact e
  ·simp only [e,P5] at hb; cases hb
 ·by_cases e:w.heap.size<=b
  ·simp only [e,if_true] at hb; exact hB2.agr b cs hb
  ·simp only [e,P5] at hb; cases hb
 ·rw [<- hK1];exact Ju hB2 hle2 r.Rs u avs rs [] hu q2 q3
end
theorem Mc {ss:Specs} {ann:Nat->Option LoopGen} {f:FuncId} {r:BoxFn} {pv:Prop} (hss:ss.ok Tryz.prog) (e:pv=Aj Tryz.prog ss ann f r) (h:pv):r.ok Tryz.prog f:=JC hss (e.mp h)
end Go.Proofs.YtmfileeamnfpaaaGreatDoor
