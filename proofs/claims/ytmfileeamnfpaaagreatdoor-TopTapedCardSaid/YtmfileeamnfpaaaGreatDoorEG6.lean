
import Derived.Test.YtmfileeamnfpaaaGreatDoorEG5
import Derived.Deep.LoopGhost
namespace Go.Proofs.YtmfileeamnfpaaaGreatDoor
open Go
structure LoopAnn where
 cs:List Cr
 inv:dp cs->Prop
 mu:dp cs->Nat
structure LoopGen where
 rd:List Cr
 wr:List Nat:=[]
 fz:List Nat:=[]
 A:dp rd->LoopAnn
def AV.rowsOf:AV->List Nat
 | .own d=>[d]
 | .pair a b=>a.rowsOf++b.rowsOf
 | _=>[]
def St.close1 (S:St) (d:Nat):St:=match S.lh d with
 | some (.cells c)=>S.freeze c.rowsOf
 | some (.mapo _ _ _ _ c0)=>match (S.freeze c0.rowsOf).lh d with
  | some (.mapo k V m _ c)=>if S.lock d then S else match AV.toTy false (S.freeze c0.rowsOf).lh V c with
   | some y=>(S.freeze c0.rowsOf).entry d (.mapp k V (m.map fun e=>(e.1,e.2.getD y)))
   | none=>S
  | _=>S
 | _=>S
def St.closes (S:St) (ds:List Nat):St:=ds.foldl St.close1 S
section
variable {M:Nat->Prop} {p0:PH} {w0:World} {tm:Array Value} {w:World} {β:Nat->Value}
theorem BQ {S:St} {p:PH} (hS:SatB M p0 w0 S tm w p β) (d:Nat):∃ p',PH.le p p'/\SatB M p0 w0 (S.close1 d) tm w p' β:=by
 unfold St.close1;split
 ·exact bZ _ S p hS
 ·rename_i c0 hc0;split
  ·rename_i k V m x c hd;split
   ·exact ⟨p,PH.le.refl p,hS⟩
   split
   ·rename_i y hy;obtain ⟨p1,hle,hS1⟩:=bZ c0.rowsOf S p hS;generalize S.freeze c0.rowsOf=S1 at *;obtain ⟨r,es,clock,e1,e2,e3,e4,e5⟩:=hS1.lhs d _ hd;refine ⟨p1,hle,hS1.turn (w':=w) hd rfl (by rw [e1]; rfl) rfl rfl rfl rfl (fun _ _=>rfl) ⟨r,es,clock,e1,e2,e3,nh (fun v hv=>?_) m es.toList e5⟩⟩;have:=cR hS1 (rows:=false) hy (val_of_one (tm:=tm) _ v hv);simp only [Qz,QW] at this;exact jU.2 this
   ·exact ⟨p,PH.le.refl p,hS⟩
  ·exact ⟨p,PH.le.refl p,hS⟩
 ·exact ⟨p,PH.le.refl p,hS⟩
theorem mz:∀ (ds:List Nat) (S:St) (p:PH),SatB M p0 w0 S tm w p β->∃ p',PH.le p p'/\SatB M p0 w0 (S.closes ds) tm w p' β
 | [],_,p,hS=>⟨p,PH.le.refl p,hS⟩
 | d::ds,S,p,hS=>by
  obtain ⟨p1,h1,hS1⟩:=BQ hS d;obtain ⟨p2,h2,hS2⟩:=mz ds (S.close1 d) p1 hS1;exact ⟨p2,h1.trans h2,hS2⟩
theorem Kx {L:List Nat} {bad:Nat->Bool} {S:St} (h:Tidy bad S) (d:Nat):Fr L bad S (S.close1 d)/\Tidy bad (S.close1 d):=by
 unfold St.close1;split
 ·exact dm _ S h
 ·rename_i c0 hc0;have h1:=dm (L:=L) (bad:=bad) c0.rowsOf S h;have hlk:(S.freeze c0.rowsOf).lock=S.lock:=(cQ _ _).2.2;split
  ·split
   ·exact ⟨Fr.refl _ _ _,h⟩
   rename_i hl;split
   ·exact ⟨h1.1.trans (cW h1.2 (by rw [hlk]; simpa using hl) _),bW h1.2 (fun t T xs e=>by cases e)⟩
   ·exact ⟨Fr.refl _ _ _,h⟩
  ·exact ⟨Fr.refl _ _ _,h⟩
 ·exact ⟨Fr.refl _ _ _,h⟩
theorem r7 {L:List Nat} {bad:Nat->Bool}:∀ (ds:List Nat) (S:St),Tidy bad S->Fr L bad S (S.closes ds)/\Tidy bad (S.closes ds)
 | [],S,h=>⟨Fr.refl _ _ _,h⟩
 | d::ds,S,h=>by
  have h1:=Kx (L:=L) h d;have h2:=r7 (L:=L) ds (S.close1 d) h1.2;exact ⟨h1.1.trans h2.1,h2.2⟩
end
def B7 (ann:Nat->Option LoopGen) (k:Nat):List Nat:=match ann k with
 | some G=>G.wr
 | none=>[]
def gA:Code->Nat
 | .region id _ _=>id
 | .seq a _=>gA a
 | .cond _ a _=>gA a
 | .block _ a=>gA a
 | .loop a=>gA a
 | _=>0
def BN (a b:Code):Nat:=1000000+(bif Nat.beq (gA a) 0 then gA b else gA a)
def df (ann:Nat->Option LoopGen):Code->List Nat
 | .region _ ops _=>ops.toList.filterMap (·.dst)
 | .seq a b=>df ann a++df ann b
 | .cond _ a b=>B7 ann (BN a b)++(df ann a++df ann b)
 | .block _ a=>B7 ann (9000000+gA a)++df ann a
 | .loop a=>B7 ann (gA a)++df ann a
 | _=>[]
def M8:List Prop->Prop->Prop
 | [],q=>q
 | p::ps,q=>p/\M8 ps q
def dl (L:List Nat) (cs:List Cr):Bool :=
 cs.all fun c=>match c with
  | .dat s _=>L.contains s
  | .own s _ _=>L.contains s
  | .same s _=>L.contains s
  | .part s _ _=>L.contains s
  | _=>true
def Lf (fz:List Nat) (A:LoopAnn) (L:List Nat) (S:St) (body:St->(St->Prop)->(Nat->St->Prop)->(St->Prop)->Prop) (X:Nat->St->Prop) (R:St->Prop):Prop :=
 match jn S A.cs with
 | none=>False
 | some (x0,ren) =>
  if Hq S L (bn ren) A.cs ren&&L.all (Nat.blt · 900000)&&(dl L A.cs&&Gn A.cs) then
   A.inv x0/\∀ x,A.inv x->body (be S L (bn ren) A.cs x)
    (fun S'=>match jn (S'.closes fz) A.cs with
     | none=>False
     | some (x',ren')=>if Hq (S'.closes fz) L (bn ren) A.cs ren' then A.inv x'/\A.mu x'<A.mu x else False)
    (fun i S'=>X i { S' with lock:=S.lock }) (fun S'=>R { S' with lock:=S.lock })
  else False
def Le (body:St->(St->Prop)->(Nat->St->Prop)->(St->Prop)->Prop) (X:Nat->St->Prop) (R:St->Prop):Nat->St->Prop
 | 0,_=>False
 | n+1,S=>body S (Le body X R n) X R
def np (S:St) (cs:List Cr):List Nat:=match jn S cs with
 | some (_,ren)=>bn ren
 | none=>[]
def gi (S:St) (L X boxes:List Nat):St :=
 { env:=fun s=>bif L.contains s then S.env s else ((S.env s).scrub (bH L X)).opn []
   lh:=fun d=>bif bH L X d then S.lh d else bif boxes.contains d then (match S.lh d with | some (.cells c)=>some (.cells c) | some (.mapp k V m)=>some (.mapp k V m) | some (.iter k V m c)=>some (.iter k V m c) | some (.mapo k V m x c)=>some (.mapo k V m x c) | _=>none) else (S.lh d).map (LE.scrub (bH L X))
   n:=S.n
   lock:=fun d=>!bH L X d&&!boxes.contains d }
def rx (A:LoopAnn) (L:List Nat) (S:St) (body:St->(St->Prop)->(Nat->St->Prop)->(St->Prop)->Prop) (K:St->Prop) (X:Nat->St->Prop) (R:St->Prop):Prop :=
 if (A.cs.flatMap Cr.boxName).all (fun d=>!S.lock d)&&L.all (Nat.blt · 900000)&&(dl L A.cs&&Gn A.cs) then
  body (gi S L (np S A.cs) (A.cs.flatMap Cr.boxName))
   (fun S'=>match jn S' A.cs with
    | none=>False
    | some (x',ren')=>if Hq S' L (np S A.cs) A.cs ren' then A.inv x' else False)
   (fun i S'=>X i { S' with lock:=S.lock }) (fun S'=>R { S' with lock:=S.lock }) /\
  ∀ x,A.inv x->K { be S L (np S A.cs) A.cs x with lock:=S.lock }
 else False
def uG (S:St) (c:Operand) (va vb:Prop):Prop :=
 match S.look [] c with
 | .bool t=>(t=true->va)/\(t=false->vb)
 | .bl t f=>(t->va)/\(f->vb)
 | _=>False
def OO (S:St) (c:Operand) (va vb:Prop):Prop :=
 match S.look [] c with
 | .bool t=>bif t then va else vb
 | _=>False
abbrev ON:=FuncId->Option (List AV->St->Nat->(St->Prop)->Prop)
def OR (inl:ON) (S:St) (o:Oper):Option ((List AV->St->Nat->(St->Prop)->Prop)×List AV×Nat) :=
 match o.guard,o.dst,o.op with
 | none,some d,.call { callee:=.value x,args,.. }=>match S.look [] x with
  | .fn f c1 c2=>match inl f with
   | some G=>if Nat.blt d S.n then some (G,(c1.map fun x=>.loc x.1 x.2)++args.toList.map (S.look [])++(c2.map fun x=>.loc x.1 x.2),d) else none
   | none=>none
  | _=>none
 | _,_,_=>none
def L9 (S:St) (o:Oper):Option (Nat×Nat×IntKind×((V:Ty)×List (Int×V.den))) :=
 match o.guard,o.dst,o.op with
 | none,some d,.next x false=>match S.look [] x with
  | .loc n 0=>match S.lh n with
   | some (.iter k V l _)=>if Nat.blt d S.n&&!S.lock n then some (d,n,k,⟨V,l⟩) else none
   | _=>none
  | _=>none
 | _,_,_=>none
def Ps (S:St) (d n:Nat) (k:IntKind) (V:Ty) (x:Int×V.den) (l:List (Int×V.den)):St :=
 (S.entry n (.iter k V l (some x))).set d (.tup (.bool true) (.tup (.int k x.1) (.tup (V.av x.2) .tnil)))
def sA (P:Program) (ss:Specs) (inl:ON) (ops:Array Oper):List Oper->St->(St->Prop)->Prop
 | [],S,K=>K S
 | o::os,S,K=>match OR inl S o with
  | some (G,avs,d)=>G avs S d (fun S'=>sA P ss inl ops os S' K)
  | none=>match L9 S o with
   | some (d,n,k,⟨V,l⟩)=>(l=[]->sA P ss inl ops os (S.set d (.tup (.bool false) .tnil)) K) /\
     ∀ (l1:List (Int×V.den)) (x:Int×V.den) (l2:List (Int×V.den)),l=l1++x::l2->sA P ss inl ops os (Ps S d n k V x (l1++l2)) K
   | none=>match Bx P ss ops o S with
    | some (ps,S1)=>M8 ps (sA P ss inl ops os S1 K)
    | none=>False
def Px (inl:ON) (ops:Array Oper):Bool:=ops.toList.any fun o=>match o.op with
 | .call { callee:=.value (.tmp _),.. }=>true
 | .call { callee:=.value (.func f),.. }=>(inl f).isSome
 | .next _ false=>true
 | _=>false
def PR (P:Program) (ss:Specs) (ops:Array Oper) (S:St):Option (List Prop×St):=match run P ss ops ops.toList S with
 | some r=>some r
 | none=>run P ss ops ops.toList (S.freeze (eG ss ops S))
def vc (P:Program) (ss:Specs) (inl:ON) (ann:Nat->Option LoopGen):Code->St->(St->Prop)->(Nat->St->Prop)->(St->Prop)->Prop
 | .skip,S,K,_,_=>K S
 | .region id ops draw,S,K,X,R=>if !draw&&Px inl ops then sA P ss inl ops ops.toList S (fun S'=>K S'.clean) else match (if draw then ann (5000000+id) else none) with
  | some G=>(match jn { S with lock:=fun _=>false } G.rd with
   | some g=>if P.follows .mixedOrders then rx (G.A g.1) (ops.toList.filterMap (·.dst)) S (fun S K _ _=>rJ P ss ops ops.size (Array.replicate ops.size false) S.clean (fun S'=>K S'.clean)) K X R else False
   | none=>False)
  | none=>match (if draw then nb (ann (4000000+id)).isSome P (ss.cutIf (ann (6000000+id)).isSome (ann (7000000+id)).isSome) ops S.clean else PR P (ss.cutIf false (ann (7000000+id)).isSome) ops S) with
  | some (ps,S')=>M8 ps (K S'.clean)
  | none=>False
 | .seq a b,S,K,X,R=>vc P ss inl ann a S (fun S'=>vc P ss inl ann b S' K X R) X R
 | .cond c a b,S,K,X,R=>if (ann (9000000+BN a b)).isSome then OO S c (vc P ss inl ann a S K X R) (vc P ss inl ann b S K X R) else match ann (BN a b) with
  | none=>uG S c (vc P ss inl ann a S K X R) (vc P ss inl ann b S K X R)
  | some G=>match jn { S with lock:=fun _=>false } G.rd with
   | some g=>rx (G.A g.1) (G.wr++(df ann a++df ann b)) S (fun S K X R=>uG S c (vc P ss inl ann a S K X R) (vc P ss inl ann b S K X R)) K X R
   | none=>False
 | .block id a,S,K,X,R=>match ann (9000000+gA a) with
  | none=>vc P ss inl ann a S K (fun i S'=>bif Nat.beq i id then K S' else X i S') R
  | some G=>match jn { S with lock:=fun _=>false } G.rd with
   | some g=>rx (G.A g.1) (G.wr++df ann a) S (fun S K X R=>vc P ss inl ann a S K (fun i S'=>bif Nat.beq i id then K S' else X i S') R) K X R
   | none=>False
 | .loop a,S,_,X,R=>match ann (8000000+gA a) with
  | some G=>Le (vc P ss inl ann a) X R (G.wr.length+1) S
  | none=>match ann (gA a) with
   | some G=>match jn { S.closes G.fz with lock:=fun _=>false } G.rd with
    | some g=>Lf G.fz (G.A g.1) (G.wr++df ann a) (S.closes G.fz) (vc P ss inl ann a) X R
    | none=>False
   | none=>False
 | .exit id,S,_,X,_=>X id S
 | .ret,S,_,_,R=>R S
 | _,_,_,_,_=>False
section
variable {M:Nat->Prop} {p0:PH} {w0:World} {P:Program}
theorem lW:∀ (ps:List Prop) (q:Prop),M8 ps q->(∀ x∈ps,x)/\q
 | [],_,h=>⟨fun x hx=>(by cases hx),h⟩
 | p::ps,q,h=>by
  obtain ⟨h1,h2⟩:=lW ps q h.2;refine ⟨fun x hx=>?_,h2⟩;rcases Qs.1 hx with rfl | hx
  ·exact h.1
  ·exact h1 x hx
theorem tP (c:Cr) (x y:c.den) (s:Nat):(c.envOf y s).isSome=(c.envOf x s).isSome:=by
 cases c <;> simp only [Cr.envOf] <;> first | rfl | (split <;> rfl)
theorem JJ (d:Nat):∀ (fs:List BF) (j:Nat) (x y:mN fs) (n:Nat),(vf d j fs y n).isSome=(vf d j fs x n).isSome:=by
 have one:∀ (f:BF) (nm:Nat) (x y:f.den) (n:Nat),(f.row nm y n).isSome=(f.row nm x n).isSome:=by
  intro f nm x y n;cases f with
  | dat T=>rfl
  | own e T=>simp only [BF.row]; split <;> rfl
  | mpc d=>rfl
  | lcc d=>rfl
 intro fs
 induction fs with
 | nil=>intro j x y n; rfl
 | cons f fs ih =>
  intro j x y n;cases fs with
  | nil=>exact one f _ x y n
  | cons g fs =>
   simp only [vf];have h1:=one f (fB d j) x.1 y.1 n;have h2:=ih (j+1) x.2 y.2 n;cases e1:f.row (fB d j) x.1 n <;> cases e2:f.row (fB d j) y.1 n <;> rw [e1,e2] at h1 <;> first | exact h2 | rfl | cases h1
theorem w8 (c:Cr) (x y:c.den) (d:Nat):(c.lhOf y d).isSome=(c.lhOf x d).isSome:=by
 cases c with
 | boxS d' fs =>
  simp only [Cr.lhOf];split
  ·rfl
  ·exact JJ d' fs 0 x y d
 | mapS d' k V e T =>
  simp only [Cr.lhOf];split
  ·rfl
  ·split <;> rfl
 | _=>simp only [Cr.lhOf] <;> first | rfl | (split <;> rfl)
theorem EP:∀ (cs:List Cr) (x y:dp cs) (s:Nat),(envOf cs y s).isSome=(envOf cs x s).isSome
 | [],_,_,_=>rfl
 | [c],x,y,s=>tP c x y s
 | c::d::cs,x,y,s=>by
  have h1:=tP c x.1 y.1 s;have h2:=EP (d::cs) x.2 y.2 s;simp only [envOf];cases e1:c.envOf x.1 s <;> cases e2:c.envOf y.1 s <;> rw [e1,e2] at h1 <;> first | exact h2 | rfl | cases h1
theorem Ik:∀ (cs:List Cr) (x y:dp cs) (d:Nat),(lhOf cs y d).isSome=(lhOf cs x d).isSome
 | [],_,_,_=>rfl
 | [c],x,y,s=>w8 c x y s
 | c::d::cs,x,y,s=>by
  have h1:=w8 c x.1 y.1 s;have h2:=Ik (d::cs) x.2 y.2 s;simp only [lhOf];cases e1:c.lhOf x.1 s <;> cases e2:c.lhOf y.1 s <;> rw [e1,e2] at h1 <;> first | exact h2 | rfl | cases h1
theorem nD:∀ (cs:List Cr) (x:dp cs) (d:Nat),(cs.flatMap Cr.boxName).contains d=true->(lhOf cs x d).isSome=true
 | [],_,_,h=>by simp at h
 | [c],x,d,h=>by
  cases c <;> simp [Cr.boxName] at h <;> subst h <;> simp [lhOf,Cr.lhOf]
 | c::c'::cs,x,d,h=>by
  simp only [lhOf];cases e:c.lhOf x.1 d with
  | some a=>rfl
  | none =>
   refine nD (c'::cs) x.2 d ?_;rw [Q7] at h;have h':=QT.1 h;rcases Qx.1 h' with h1 | h1
   ·exfalso;cases c <;> simp only [Cr.boxName,QA,RV] at h1
    all_goals subst h1; simp [Cr.lhOf] at e
   ·exact QT.2 h1
def Ns (M:Nat->Prop) (p0:PH) (w0:World) (ds:List Deferred) (L:List Nat) (bad:Nat->Bool) (S:St) (K:St->Prop) (X:Nat->St->Prop) (R:St->Prop):Exit->Act->World->Prop
 | .normal,a,w=>∃ S',K S'/\Fr L bad S S'/\Tidy bad S'/\Sat M p0 w0 S' a.tmps w/\a.defers=ds
 | .exit i,a,w=>∃ S',X i S'/\Fr L bad S S'/\Tidy bad S'/\Sat M p0 w0 S' a.tmps w/\a.defers=ds
 | .ret,a,w=>∃ S',R S'/\Fr L bad S S'/\Tidy bad S'/\Sat M p0 w0 S' a.tmps w/\a.defers=ds
 | _,_,_=>False
theorem Sat.congr {S T:St} {tm:Array Value} {w:World} (h:Sat M p0 w0 S tm w) (he:T.env=S.env) (hl:T.lh=S.lh) (hn:T.n=S.n):Sat M p0 w0 T tm w:=by
 obtain ⟨p,β,h⟩:=h;refine ⟨p,β,h.keep,h.agr,h.old,by rw [hn]; exact h.size,?_,?_,?_,?_⟩
 ·rw [hl]; exact h.lhs
 ·rw [hl]; exact h.owns
 ·rw [hl]; exact h.inj
 ·rw [he]; exact h.env
theorem Fr.mono {L L':List Nat} {bad:Nat->Bool} {S S':St} (h:Fr L bad S S') (hL:∀ s,L.contains s=true->L'.contains s=true):Fr L' bad S S' :=
 ⟨h.n,h.lock,fun s hs hst=>h.env s (by
  cases hc:L.contains s
  ·rfl
  ·rw [hL s hc] at hs; cases hs) hst,h.lh,h.frames⟩
theorem fU {L1 L2:List Nat}:∀ s,L1.contains s=true->(L1++L2).contains s=true:=fun s h=>by
 simp only [QT,Qx] at h |-; exact .inl h
theorem bj {L1 L2:List Nat}:∀ s,L2.contains s=true->(L1++L2).contains s=true:=fun s h=>by
 simp only [QT,Qx] at h |-; exact .inr h
theorem pj {L X:List Nat} (h:L.all (Nat.blt · 900000)=true):Named L (bH L X):=by
 intro d hd k
 have h1:d<900000:=by
  have:=Qy.1 h d (QT.1 hd);simpa using this
 have h2:bB d k % 1000000=d:=by unfold bB; omega
 simp only [bH,h2,hd,Bool.true_or]
theorem xf {L X L':List Nat} {bad:Nat->Bool} (hN:Named L' bad) (h9:∀ n,Bv n=true->bad n=true) (hL:∀ s,L.contains s=true->L'.contains s=true) (hX:∀ n∈X,bad n=true) :
  ∀ n,bH L X n=true->bad n=true:=by
 intro n hn;simp only [bH,Ri] at hn;rcases hn with (hn | hn) | hn
 ·have h1:n=bB (n % 1000000) (n / 1000000):=by unfold bB; omega
  rw [h1];exact hN _ (hL _ hn) _
 ·exact hX n (QT.1 hn)
 ·exact h9 n hn
theorem w9 {bad:Nat->Bool} {S:St} (hT:Tidy bad S) {L:List Nat} (h9:∀ n,Bv n=true->bad n=true) (hL:∀ s,L.contains s=true->bad s=true) {c:Cr} {x:c.den} {ren:List (Nat×Option Nat)}
  (h:c.get S=some (x,ren)) (hs:dl L [c]=true):∀ n∈bn ren,bad n=true:=by
 have row:∀ {e:TypeId} {T:Ty} {a:AV} {y:List T.den×Option Nat},a.rowAt S e T=some y->∀ d,y.2=some d->bad d=true:=by
  intro e T a y hy d hd;cases a <;> simp only [AV.rowAt,reduceCtorEq] at hy
  ·injection hy with hy; subst hy; cases hd
  ·split at hy <;> try cases hy
   rename_i e' T' ys hlh;split at hy <;> try cases hy
   rename_i hT';subst hT';split at hy <;> simp only [pS,reduceCtorEq] at hy;rename_i hb;simp only [CF,QN] at hb;subst hy;injection hd with hd
   subst hd;exact hT.row _ _ _ _ hlh hb.2
 intro n hn;cases c with
 | dat s T =>
  obtain ⟨y,hy,h0⟩:=Dm.1 h;injection h0 with _ h00
  subst h00;cases hn
 | box d T =>
  unfold Cr.get at h;simp only at h;split at h
  case h_2=>cases h
  obtain ⟨y,hy,h0⟩:=Dm.1 h;injection h0 with _ h00
  subst h00;cases hn
 | part s s' T =>
  simp only [Cr.get] at h;split at h <;> try cases h
  split at h <;> try cases h
  split at h <;> simp only [pS,reduceCtorEq] at h;obtain ⟨_,rfl⟩:=h;cases hn
 | same s s' =>
  simp only [Cr.get] at h;split at h <;> try cases h
  split at h <;> simp only [pS,reduceCtorEq] at h;obtain ⟨_,rfl⟩:=h;cases hn
 | map d k V =>
  simp only [Cr.get] at h;split at h <;> try cases h
  split at h <;> simp only [pS,reduceCtorEq] at h;obtain ⟨_,rfl⟩:=h;cases hn
 | iter d k V =>
  simp only [Cr.get] at h;split at h <;> try cases h
  split at h <;> simp only [pS,reduceCtorEq] at h;obtain ⟨_,rfl⟩:=h;cases hn
 | own s e T =>
  obtain ⟨y,hy,h0⟩:=Dm.1 h;injection h0 with _ h00
  subst h00;simp only [bn,Q7,SX,Q8,Qs,Option.mem_toList] at hn;rcases hn with rfl | hn
  ·exact hL _ (by simpa [dl] using hs)
  ·exact row hy n hn
 | mapS d k V e T =>
  unfold Cr.get at h;simp only at h;split at h <;> try cases h
  split at h <;> try cases h
  obtain ⟨y,hy,h0⟩:=Dm.1 h;injection h0 with _ h00
  subst h00;simp only [bn,Q7,SX,Q8,Qs,Option.mem_toList] at hn;rcases hn with rfl | hn
  ·exact h9 _ (ve hy)
  ·exact row (lG hy) n hn
 | boxS d fs =>
  obtain ⟨_,_,h⟩:=xe h
  have one:∀ (f:BF) (j:Nat) (a:AV) (x:f.den) (r:List (Nat×Option Nat)),f.get S (fB d j) a=some (x,r)->∀ n∈bn r,bad n=true:=by
   intro f j a x r h n hn;cases f with
   | dat T =>
    obtain ⟨y,hy,h0⟩:=Dm.1 h;injection h0 with _ h00
    subst h00;cases hn
   | mpc d =>
    simp only [BF.get] at h;split at h <;> try cases h
    split at h <;> simp only [pS,reduceCtorEq] at h;injection h with _ h
    subst h;cases hn
   | lcc d =>
    simp only [BF.get] at h;split at h <;> try cases h
    split at h <;> simp only [pS,reduceCtorEq] at h;injection h with _ h
    subst h;cases hn
   | own e T =>
    obtain ⟨y,hy,h0⟩:=Dm.1 h;injection h0 with _ h00
    subst h00;simp only [bn,Q7,SX,Q8,Qs,Option.mem_toList] at hn;rcases hn with rfl | hn
    ·exact h9 _ (ve hy)
    ·exact row (lG hy) n hn
  have all:∀ (fs:List BF) (j:Nat) (a:AV) (x:mN fs) (r:List (Nat×Option Nat)),qT S d j fs a=some (x,r)->∀ n∈bn r,bad n=true:=by
   intro fs
   induction fs with
   | nil=>intro j a x r h; cases h
   | cons f fs ih =>
    intro j a x r h n hn;cases fs with
    | nil=>exact one f j a x r h n hn
    | cons g fs =>
     unfold qT at h;split at h <;> simp only [pS,reduceCtorEq] at h;rename_i y r1 z r2 h1 h2;obtain ⟨_,rfl⟩:=h;simp only [bn,Sx,Qx] at hn;rcases hn with hn | hn
     ·exact one f j _ y r1 h1 n hn
     ·exact ih (j+1) _ z r2 h2 n hn
  exact all fs 0 _ x ren h n hn
theorem qS {bad:Nat->Bool} {S:St} (hT:Tidy bad S) {L X:List Nat} (h9:∀ n,Bv n=true->bad n=true) (hL:∀ s,L.contains s=true->bad s=true):∀ (cs:List Cr) (x:dp cs) (ren:List (Nat×Option Nat)),
  jn S cs=some (x,ren)->dl L cs=true->∀ n∈bn ren,bad n=true
 | [],x,ren,h,_,n,hn=>by
  injection h with h
  injection h with _ h
  subst h;cases hn
 | [c],x,ren,h,hs,n,hn=>w9 hT h9 hL h hs n hn
 | c::d::cs,x,ren,h,hs,n,hn=>by
  unfold jn at h;split at h <;> try cases h
  rename_i x1 r1 y r2 h1 h2;simp only [dl,Rt,CF] at hs;simp only [bn,Sx,Qx] at hn;rcases hn with hn | hn
  ·exact w9 hT h9 hL h1 (by simp only [dl,Rt,Tb,Bool.and_true]; exact hs.1) n hn
  ·exact qS hT (X:=X) h9 hL (d::cs) y r2 h2 (by simp only [dl,Rt,CF]; exact hs.2) n hn
theorem wl:∀ (cs:List Cr) (x y:dp cs) (S:St) (ren:List (Nat×Option Nat)),jn S cs=some (y,ren)->∀ {d:Nat} {t:TypeId} {T:Ty} {xs:List T.den},lhOf cs x d=some (.row t T xs)->d∈ren.map (·.1):=by
 have one:∀ (c:Cr) (x y:c.den) (S:St) (ren:List (Nat×Option Nat)),c.get S=some (y,ren)->∀ {d:Nat} {t:TypeId} {T:Ty} {xs:List T.den},c.lhOf x d=some (.row t T xs)->d∈ren.map (·.1):=by
  intro c x y S ren h d t T xs he;cases c with
  | dat s T=>simp [Cr.lhOf] at he
  | same _ _=>simp [Cr.lhOf] at he
  | part _ _ _=>simp [Cr.lhOf] at he
  | map d' k V =>
   simp only [Cr.lhOf] at he;split at he <;> simp only [pS,reduceCtorEq] at he
  | iter d' k V =>
   simp only [Cr.lhOf] at he;split at he <;> simp only [pS,reduceCtorEq] at he
  | box d' T =>
   simp only [Cr.lhOf] at he;split at he <;> simp only [pS,reduceCtorEq] at he
  | own s e T =>
   obtain ⟨y',hy,h0⟩:=Dm.1 h;injection h0 with _ h00
   subst h00;simp only [Cr.lhOf] at he;split at he <;> simp only [pS,reduceCtorEq] at he;rename_i hs;simp [CC hs]
  | mapS d' k V e T' =>
   unfold Cr.get at h;simp only at h;split at h <;> try cases h
   split at h <;> try cases h
   obtain ⟨y',hy,h0⟩:=Dm.1 h;injection h0 with _ h00
   subst h00;simp only [Cr.lhOf] at he;split at he
   ·cases he
   ·split at he <;> simp only [pS,reduceCtorEq] at he;rename_i hs;simp [CC hs]
  | boxS d' fs =>
   obtain ⟨_,_,h⟩:=xe h;simp only [Cr.lhOf] at he;split at he
   ·cases he
   ·have one:∀ (f:BF) (j:Nat) (a:AV) (x y:f.den) (r:List (Nat×Option Nat)),f.get S (fB d' j) a=some (y,r)->f.row (fB d' j) x d=some (.row t T xs)->d∈r.map (·.1):=by
     intro f j a x y r h he;cases f with
     | dat T=>cases he
     | mpc d=>cases he
     | lcc d=>cases he
     | own e T =>
      obtain ⟨y',hy,h0⟩:=Dm.1 h;injection h0 with _ h00
      subst h00;simp only [BF.row] at he;split at he <;> simp only [pS,reduceCtorEq] at he;rename_i hs;simp [CC hs]
    have all:∀ (fs:List BF) (j:Nat) (a:AV) (x y:mN fs) (r:List (Nat×Option Nat)),qT S d' j fs a=some (y,r)->vf d' j fs x d=some (.row t T xs)->d∈r.map (·.1):=by
     intro fs
     induction fs with
     | nil=>intro j a x y r h; cases h
     | cons f fs ih =>
      intro j a x y r h he;cases fs with
      | nil=>exact one f j a x y r h he
      | cons g fs =>
       unfold qT at h;split at h <;> simp only [pS,reduceCtorEq] at h;rename_i y1 r1 z r2 h1 h2;obtain ⟨_,rfl⟩:=h;simp only [vf] at he;rw [Rg];split at he
       ·rename_i e' he';injection he with he
        subst he;exact L3 _ (one f j _ x.1 y1 r1 h1 he')
       ·exact Qw _ (ih (j+1) _ x.2 z r2 h2 he)
    exact all fs 0 _ x y ren h he
 intro cs
 induction cs with
 | nil=>intro x y S ren h d t T xs he; cases he
 | cons c cs ih =>
  intro x y S ren h d t T xs he;cases cs with
  | nil=>exact one c x y S ren h he
  | cons c' cs =>
   unfold jn at h;split at h <;> try cases h
   rename_i x1 r1 y' r2 h1 h2;simp only [lhOf] at he;rw [Rg];split at he
   ·rename_i a ha;injection he with he
    subst he;exact L3 _ (one c x.1 x1 S r1 h1 ha)
   ·exact Qw _ (ih x.2 y' S r2 h2 he)
theorem wW:∀ (cs:List Cr) (x:dp cs) (L:List Nat),dl L cs=true->∀ s,(envOf cs x s).isSome=true->L.contains s=true:=by
 have one:∀ (c:Cr) (x:c.den) (L:List Nat),dl L [c]=true->∀ s,(c.envOf x s).isSome=true->L.contains s=true:=by
  intro c x L hs s h;cases c with
  | dat s' T =>
   simp only [Cr.envOf] at h;split at h
   ·rename_i he; rw [CC he]; simpa [dl] using hs
   ·cases h
  | own s' e T =>
   simp only [Cr.envOf] at h;split at h
   ·rename_i he; rw [CC he]; simpa [dl] using hs
   ·cases h
  | part s1 s2 T =>
   simp only [Cr.envOf] at h;split at h
   ·rename_i he; rw [CC he]; simpa [dl] using hs
   ·cases h
  | same s1 s2 =>
   simp only [Cr.envOf] at h;split at h
   ·rename_i he; rw [CC he]; simpa [dl] using hs
   ·cases h
  | box d T=>simp [Cr.envOf] at h
  | boxS d fs=>simp [Cr.envOf] at h
  | map d k V=>simp [Cr.envOf] at h
  | iter d k V=>simp [Cr.envOf] at h
  | mapS d k V e T=>simp [Cr.envOf] at h
 intro cs
 induction cs with
 | nil=>intro x L _ s h; simp [envOf] at h
 | cons c cs ih =>
  intro x L hs s h;cases cs with
  | nil=>exact one c x L hs s h
  | cons c' cs =>
   simp only [dl,Rt,CF] at hs;simp only [envOf] at h;split at h
   ·rename_i a ha;exact one c x.1 L (by simp only [dl,Rt,Tb,Bool.and_true]; exact hs.1) s (by rw [ha]; rfl)
   ·exact ih x.2 L (by simp only [dl,Rt,CF]; exact hs.2) s h
theorem HU (d:Nat):∀ (fs:List BF) (j:Nat) (x:mN fs) (n:Nat) (e:LE),vf d j fs x n=some e->∃ t T xs,e=.row t T xs:=by
 have one:∀ (f:BF) (nm:Nat) (x:f.den) (n:Nat) (e:LE),f.row nm x n=some e->∃ t T xs,e=.row t T xs:=by
  intro f nm x n e h;cases f with
  | dat T=>cases h
  | mpc d=>cases h
  | lcc d=>cases h
  | own t T =>
   simp only [BF.row] at h;split at h <;> simp only [pS,reduceCtorEq] at h;exact ⟨_,_,_,h.symm⟩
 intro fs
 induction fs with
 | nil=>intro j x n e h; cases h
 | cons f fs ih =>
  intro j x n e h;cases fs with
  | nil=>exact one f _ x n e h
  | cons g fs =>
   simp only [vf] at h;split at h
   ·rename_i e' he';injection h with h
    subst h;exact one f _ x.1 n _ he'
   ·exact ih (j+1) x.2 n e h
theorem Kl:∀ (cs:List Cr) (x:dp cs) (d:Nat) (e:LE),lhOf cs x d=some e->(∃ t T xs,e=.row t T xs)\/(cs.flatMap Cr.boxName).contains d=true:=by
 have one:∀ (c:Cr) (x:c.den) (d:Nat) (e:LE),c.lhOf x d=some e->(∃ t T xs,e=.row t T xs)\/d∈c.boxName:=by
  intro c x d e h;cases c with
  | dat s T=>simp [Cr.lhOf] at h
  | same _ _=>simp [Cr.lhOf] at h
  | part _ _ _=>simp [Cr.lhOf] at h
  | map d' k V=>simp only [Cr.lhOf] at h; split at h <;> simp only [pS,reduceCtorEq] at h; rename_i hs; right; simp [Cr.boxName,CC hs]
  | iter d' k V=>simp only [Cr.lhOf] at h; split at h <;> simp only [pS,reduceCtorEq] at h; rename_i hs; right; simp [Cr.boxName,CC hs]
  | own s t T=>simp only [Cr.lhOf] at h; split at h <;> simp only [pS,reduceCtorEq] at h; exact .inl ⟨_,_,_,h.symm⟩
  | box d' T=>simp only [Cr.lhOf] at h; split at h <;> simp only [pS,reduceCtorEq] at h; rename_i hs; right; simp [Cr.boxName,CC hs]
  | mapS d' k V e T =>
   simp only [Cr.lhOf] at h;split at h
   ·rename_i hs; right; simp [Cr.boxName,CC hs]
   ·split at h <;> simp only [pS,reduceCtorEq] at h;exact .inl ⟨_,_,_,h.symm⟩
  | boxS d' fs =>
   simp only [Cr.lhOf] at h;split at h
   ·rename_i hs; right; simp [Cr.boxName,CC hs]
   ·exact .inl (HU d' fs 0 x d e h)
 intro cs
 induction cs with
 | nil=>intro x d e h; cases h
 | cons c cs ih =>
  intro x d e h;cases cs with
  | nil =>
   rw [QT];rcases one c x d e h with h | h
   ·exact .inl h
   ·exact .inr (by simpa using h)
  | cons c' cs =>
   simp only [lhOf] at h;rw [Q7,QT,Qx];split at h
   ·rename_i a ha;injection h with h
    subst h;exact (one c x.1 d _ ha).imp id .inl
   ·exact (ih x.2 d e h).imp id (fun h=>.inr (QT.1 h))
theorem qN:∀ (cs:List Cr) (x:dp cs) (d:Nat) (tm:Array Value) (env:Nat->AV),lhOf cs x d≠some (.frame tm env):=by
 have one:∀ (c:Cr) (x:c.den) (d:Nat) (tm:Array Value) (env:Nat->AV),c.lhOf x d≠some (.frame tm env):=by
  intro c x d tm env h;cases c with
  | mapS d' k V e T =>
   simp only [Cr.lhOf] at h;split at h
   ·simp only [pS,reduceCtorEq] at h
   ·split at h <;> simp only [pS,reduceCtorEq] at h
  | boxS d' fs =>
   simp only [Cr.lhOf] at h;split at h
   ·simp only [pS,reduceCtorEq] at h
   ·obtain ⟨_,_,_,e⟩:=HU d' fs 0 x d _ h;cases e
  | _=>simp only [Cr.lhOf] at h <;> first | (cases h; done) | (split at h <;> simp only [pS,reduceCtorEq] at h)
 intro cs
 induction cs with
 | nil=>intro x d tm env h; cases h
 | cons c cs ih =>
  intro x d tm env h;cases cs with
  | nil=>exact one c x d tm env h
  | cons c' cs =>
   simp only [lhOf] at h;split at h
   ·rename_i a ha;injection h with h
    subst h;exact one c x.1 d tm env ha
   ·exact ih x.2 d tm env h
theorem Kj {S:St} {L X:List Nat} {cs:List Cr} {x0:dp cs} {ren:List (Nat×Option Nat)} (hg:jn S cs=some (x0,ren)) (hc:Hq S L X cs ren=true) (x:dp cs):Tidy (bH L X) (be S L X cs x):=by
 simp only [Hq,CF] at hc;have hc:=hc.1;refine ⟨fun d hd=>?_,fun d e T xs hd hl=>?_,fun d tm env hd=>?_⟩
 ·simp only [be,CF,QN] at hd;exact hd.1
 ·simp only [be] at hd hl;split at hd
  ·rename_i e' he;injection hd with hd
   subst hd;have hm:=wl cs x x0 S ren hg he;obtain ⟨z,hz,rfl⟩:=QR.1 hm;exact Qy.1 hc.1.1.1 _ (ga hz).1
  ·rename_i hnone;cases hb:bH L X d
   ·rw [hb] at hl;simp only [Tg,RN,Bool.not_eq_false'] at hl;have:=nD cs x d hl;rw [hnone] at this;cases this
   ·rfl
 ·simp only [be] at hd;split at hd
  ·rename_i e' he;injection hd with hd
   subst hd;exact absurd he (qN cs x d tm env)
  ·rename_i hnone;cases hb:bH L X d
   ·simp only [be,hb,Tg,RN];cases hbx:(cs.flatMap Cr.boxName).contains d
    ·rfl
    ·have:=nD cs x d hbx;rw [hnone] at this;cases this
   ·rw [hb] at hd; cases hd
theorem kf:∀ (cs:List Cr) (x:dp cs) {S:St} {L X:List Nat} {x0:dp cs} {ren:List (Nat×Option Nat)},jn S cs=some (x0,ren)->Hq S L X cs ren=true->∀ d e,lhOf cs x d=some e->bH L X d=true\/(cs.flatMap Cr.boxName).contains d=true:=by
 intro cs x S L X x0 ren hg hc d e he;simp only [Hq,CF] at hc;have hc:=hc.1;rcases Kl cs x d e he with ⟨t,T,xs,rfl⟩ | h
 ·have hm:=wl cs x x0 S ren hg he;obtain ⟨z,hz,rfl⟩:=QR.1 hm;exact .inl (Qy.1 hc.1.1.1 _ (ga hz).1)
 ·exact .inr h
theorem Oe {L0:List Nat} {bad:Nat->Bool} {S:St} (hT:Tidy bad S) {L X:List Nat} {cs:List Cr} {x0:dp cs} {ren:List (Nat×Option Nat)} (hg:jn S cs=some (x0,ren)) (hsub:∀ n,bH L X n=true->bad n=true) (hc:Hq S L X cs ren=true) (hs:dl L cs=true)
  (hL:∀ s,L.contains s=true->L0.contains s=true) (x:dp cs):Fr L0 bad S { be S L X cs x with lock:=S.lock }:=by
 have hc':=hc;simp only [Hq,CF] at hc;have hc:=hc.1;refine ⟨rfl,rfl,fun s hs' hst=>?_,fun d hd hst=>?_,fun d tm env he=>?_⟩
 ·have hLs:L.contains s=false:=by
   cases h:L.contains s
   ·rfl
   ·rw [hL s h] at hs'; cases hs'
  have hnone:envOf cs x s=none:=by
   cases h:envOf cs x s with
   | none=>rfl
   | some a=>have:=wW cs x L hs s (by rw [h]; rfl); rw [hLs] at this; cases this
  simp only [be,hnone,hLs,QB];rw [dF hsub _ hst.1,gT hst.2]
 ·have hbd:bH L X d=false:=by
   cases h:bH L X d
   ·rfl
   ·have:=hT.lock d hd; rw [hsub d h] at this; cases this
  have hnone:lhOf cs x d=none:=by
   cases h:lhOf cs x d with
   | none=>rfl
   | some e =>
    rcases kf cs x hg hc' d e h with h1 | h1
    ·rw [hbd] at h1; cases h1
    ·have:=Qy.1 hc.2 d (QT.1 h1);simp only [CF,QN] at this;rw [hd] at this;cases this.2
  simp only [be,hnone,hbd,QB];cases h:S.lh d with
  | none=>rfl
  | some e0=>simp only [Q6,iu hsub e0 (hst e0 h)]
 ·have hd:=hT.frame d tm env he
  have hbd:bH L X d=false:=by
   cases h:bH L X d
   ·rfl
   ·have:=hT.lock d hd; rw [hsub d h] at this; cases this
  have hnone:lhOf cs x d=none:=by
   cases h:lhOf cs x d with
   | none=>rfl
   | some e =>
    rcases kf cs x hg hc' d e h with h1 | h1
    ·rw [hbd] at h1; cases h1
    ·have:=Qy.1 hc.2 d (QT.1 h1);simp only [CF,QN] at this;rw [hd] at this;cases this.2
  refine ⟨fun s=>(env s).scrub (bH L X),by simp only [be,hnone,hbd,QB,he,Q6,LE.scrub],fun s hs=>dF hsub _ hs.1⟩
theorem Ms {L0:List Nat} {bad:Nat->Bool} {S S':St} (hT:Tidy bad S) {L X:List Nat} {cs:List Cr} {x0:dp cs} {ren:List (Nat×Option Nat)} (hg:jn S cs=some (x0,ren)) (hsub:∀ n,bH L X n=true->bad n=true) (hc:Hq S L X cs ren=true) (hs:dl L cs=true)
  (hL:∀ s,L.contains s=true->L0.contains s=true) (x:dp cs) (hF:Fr L (bH L X) (be S L X cs x) S') (hT':Tidy (bH L X) S'):Fr L0 bad S { S' with lock:=S.lock }/\Tidy bad { S' with lock:=S.lock }:=by
 have h0:=Oe (L0:=L0) hT hg hsub hc hs hL x;have hc':=hc;simp only [Hq,CF] at hc;have hc:=hc.1
 have kept:∀ d,S'.lock d=true->S'.lh d=(S.lh d).map (LE.scrub (bH L X)):=by
  intro d hlk;rw [hF.lock] at hlk;simp only [be,CF,QN] at hlk
  have hnone:lhOf cs x d=none:=by
   cases h:lhOf cs x d with
   | none=>rfl
   | some e =>
    rcases kf cs x hg hc' d e h with h1 | h1
    ·rw [hlk.1] at h1; cases h1
    ·rw [hlk.2] at h1; cases h1
  have e1:(be S L X cs x).lh d=(S.lh d).map (LE.scrub (bH L X)):=by simp only [be,hnone,hlk.1,QB]
  have h2:=hF.lh d (by simp only [be,hlk.1,hlk.2]; rfl) (fun e he=>by
   rw [e1] at he;simp only [Dm] at he;obtain ⟨e0,_,rfl⟩:=he;exact gr _ e0)
  rw [h2,e1]
 refine ⟨⟨hF.n,rfl,fun s hs' hst=>?_,fun d hd hst=>?_,fun d tm env he=>?_⟩,⟨hT.lock,fun d e T xs hd hl=>?_,fun d tm env hd=>?_⟩⟩
 ·have hLs:L.contains s=false:=by
   cases h:L.contains s
   ·rfl
   ·rw [hL s h] at hs'; cases hs'
  have h1:=h0.env s hs' hst;simp only at h1;have h2:=hF.env s hLs (by rw [h1]; exact ⟨dF hsub _ hst.1,hst.2⟩);exact h2.trans h1
 ·have h1:=h0.lh d hd hst;simp only at h1
  have hbd:bH L X d=false:=by
   cases h:bH L X d
   ·rfl
   ·have:=hT.lock d hd; rw [hsub d h] at this; cases this
  have hnb:(cs.flatMap Cr.boxName).contains d=false:=by
   cases h:(cs.flatMap Cr.boxName).contains d
   ·rfl
   ·have:=Qy.1 hc.2 d (QT.1 h);simp only [CF,QN] at this;rw [hd] at this;cases this.2
  have hlock:(be S L X cs x).lock d=true:=by simp only [be,hbd,hnb]; rfl
  have h2:=hF.lh d hlock (by
   intro e he;rw [h1] at he;exact iu hsub e (hst e he))
  exact h2.trans h1
 ·obtain ⟨env1,g1,g2⟩:=h0.frames d tm env he;obtain ⟨env2,g3,g4⟩:=hF.frames d tm env1 g1;exact ⟨env2,g3,fun s hs=>(g4 s (by rw [g2 s hs]; exact ⟨dF hsub _ hs.1,hs.2⟩)).trans (g2 s hs)⟩
 ·simp only at hd hl;cases hlk:S'.lock d
  ·exact hsub d (hT'.row d e T xs hd hlk)
  ·
   rw [kept d hlk] at hd;simp only [Dm] at hd;obtain ⟨e0,h3,h4⟩:=hd;cases e0 <;> simp only [LE.scrub,reduceCtorEq] at h4;exact hT.row d _ _ _ h3 hl
 ·simp only at hd;rw [kept d (hT'.frame d tm env hd)] at hd;simp only [Dm] at hd;obtain ⟨e0,h3,h4⟩:=hd;cases e0 <;> simp only [LE.scrub,reduceCtorEq] at h4;exact hT.frame d _ _ h3
section join
variable {L0 L X boxes:List Nat} {bad:Nat->Bool} {S S':St}
theorem H8 {tm:Array Value} {w:World} (h:Sat M p0 w0 S tm w):Sat M p0 w0 (gi S L X boxes) tm w:=by
 obtain ⟨p,β,hS⟩:=h
 have hlh:∀ d e,(gi S L X boxes).lh d=some e->∃ e0,S.lh d=some e0/\e.live=e0.live/\(e0.sat p β w d->e.sat p β w d):=by
  intro d e hd;simp only [gi] at hd;cases hb:bH L X d
  ·rw [hb] at hd;simp only [QB] at hd;cases hx:boxes.contains d
   ·rw [hx] at hd;simp only [QB,Dm] at hd;obtain ⟨e0,h1,rfl⟩:=hd;exact ⟨e0,h1,LE.scrub_live _ _,fun hs=>LE.sat_scrub (fun _ _=>rfl) d hb e0 hs⟩
   ·rw [hx] at hd;simp only [QS] at hd;split at hd
    ·rename_i c hl;injection hd with hd
     subst hd;exact ⟨_,hl,rfl,id⟩
    ·rename_i hl;injection hd with hd
     subst hd;exact ⟨_,hl,rfl,id⟩
    ·rename_i hl;injection hd with hd
     subst hd;exact ⟨_,hl,rfl,id⟩
    ·rename_i hl;injection hd with hd
     subst hd;exact ⟨_,hl,rfl,id⟩
    ·cases hd
  ·rw [hb] at hd;exact ⟨e,hd,rfl,id⟩
 refine ⟨p,β,hS.keep,hS.agr,hS.old,hS.size,fun d e hd=>?_,fun d e b hd hl hb=>?_,fun d d' e e' b hd hl hd' hl' hb hb'=>?_,fun s=>?_⟩
 ·obtain ⟨e0,h1,_,h3⟩:=hlh d e hd;exact h3 (hS.lhs d e0 h1)
 ·obtain ⟨e0,h1,h2,_⟩:=hlh d e hd;exact hS.owns d e0 b h1 (by rw [<- h2]; exact hl) hb
 ·obtain ⟨e0,h1,h2,_⟩:=hlh d e hd;obtain ⟨e1,k1,k2,_⟩:=hlh d' e' hd';exact hS.inj d d' e0 e1 b h1 (by rw [<- h2]; exact hl) k1 (by rw [<- k2]; exact hl') hb hb'
 ·simp only [gi];cases L.contains s
  ·exact da (aL _) _ _ (AV.val_scrub (fun _ _=>rfl) _ _ (hS.env s))
  ·exact hS.env s
theorem DS (hT:Tidy bad S) (hsub:∀ n,bH L X n=true->bad n=true):Tidy (bH L X) (gi S L X boxes):=by
 refine ⟨fun d hd=>?_,fun d e T xs hd hl=>?_,fun d tm env hd=>?_⟩
 ·simp only [gi,CF,QN] at hd;exact hd.1
 ·simp only [gi] at hd hl;cases hb:bH L X d
  ·rw [hb] at hd hl;simp only [Tg,RN,Bool.not_eq_false'] at hl;rw [hl] at hd;simp only [QB,QS] at hd;split at hd <;> cases hd
  ·rfl
 ·simp only [gi] at hd;cases hb:bH L X d
  ·rw [hb] at hd;simp only [QB] at hd;simp only [gi,hb,Tg,RN];cases hx:boxes.contains d
   ·rfl
   ·rw [hx] at hd;simp only [QS] at hd;split at hd <;> cases hd
  ·rw [hb] at hd;have:=hT.lock d (hT.frame d tm env hd);rw [hsub d hb] at this;cases this
theorem A0 (hF:Fr L (bH L X) (gi S L X boxes) S') {d:Nat} (hb:bH L X d=false) (hx:boxes.contains d=false):S'.lh d=(S.lh d).map (LE.scrub (bH L X)):=by
 have e1:(gi S L X boxes).lh d=(S.lh d).map (LE.scrub (bH L X)):=by simp only [gi,hb,hx,QB]
 have h2:=hF.lh d (by simp only [gi,hb,hx]; rfl) (fun e he=>by
  rw [e1] at he;simp only [Dm] at he;obtain ⟨e0,_,rfl⟩:=he;exact gr _ e0)
 rw [h2,e1]
theorem H9 (hF:Fr L (bH L X) (gi S L X boxes) S') {s:Nat} (hs:L.contains s=false):S'.env s=((S.env s).scrub (bH L X)).opn []:=by
 have e1:(gi S L X boxes).env s=((S.env s).scrub (bH L X)).opn []:=by simp only [gi,hs,QB]
 have h2:=hF.env s hs (by rw [e1]; exact nS _ _);rw [h2,e1]
theorem y7 {cs:List Cr} (hF:Fr L (bH L X) (gi S L X (cs.flatMap Cr.boxName)) S') (x:dp cs) :
  (be S L X cs x).env=(be S' L X cs x).env/\(be S L X cs x).lh=(be S' L X cs x).lh/\S.n=S'.n:=by
 refine ⟨?_,?_,hF.n.symm⟩
 ·funext s;simp only [be];cases he:envOf cs x s with
  | some a=>rfl
  | none =>
   cases hL:L.contains s
   ·simp only [QB];rw [H9 hF hL,(nS (bH L X) (S.env s)).1,gT (co _ _)]
   ·rfl
 ·funext d;simp only [be];cases he:lhOf cs x d with
  | some a=>rfl
  | none =>
   cases hb:bH L X d
   ·simp only [QB]
    have hnb:(cs.flatMap Cr.boxName).contains d=false:=by
     cases hbx:(cs.flatMap Cr.boxName).contains d
     ·rfl
     ·have:=nD cs x d hbx; rw [he] at this; cases this
    rw [A0 hF hb hnb];cases S.lh d with
    | none=>rfl
    | some e0=>simp only [Q6,gr]
   ·rfl
theorem LW (hT:Tidy bad S) (hsub:∀ n,bH L X n=true->bad n=true) (hL:∀ s,L.contains s=true->L0.contains s=true) (hbx:∀ d∈boxes,S.lock d=false) :
  ∀ S',Fr L (bH L X) (gi S L X boxes) S'->Tidy (bH L X) S'->Fr L0 bad S { S' with lock:=S.lock }/\Tidy bad { S' with lock:=S.lock }:=by
 intro S' hF hT';refine ⟨⟨hF.n,rfl,fun s hs' hst=>?_,fun d hd hst=>?_,fun d tm env he=>?_⟩,⟨hT.lock,fun d e T xs hd hl=>?_,fun d tm env hd=>?_⟩⟩
 ·have hLs:L.contains s=false:=by
   cases h:L.contains s
   ·rfl
   ·rw [hL s h] at hs'; cases hs'
  show S'.env s=S.env s;rw [H9 hF hLs,dF hsub _ hst.1,gT hst.2]
 ·have hbd:bH L X d=false:=by
   cases h:bH L X d
   ·rfl
   ·have:=hT.lock d hd; rw [hsub d h] at this; cases this
  have hnb:boxes.contains d=false:=by
   cases h:boxes.contains d
   ·rfl
   ·have:=hbx d (QT.1 h); rw [hd] at this; cases this
  show S'.lh d=S.lh d;rw [A0 hF hbd hnb];cases h:S.lh d with
  | none=>rfl
  | some e0=>simp only [Q6,iu hsub e0 (hst e0 h)]
 ·have hd:=hT.frame d tm env he
  have hbd:bH L X d=false:=by
   cases h:bH L X d
   ·rfl
   ·have:=hT.lock d hd; rw [hsub d h] at this; cases this
  have hnb:boxes.contains d=false:=by
   cases h:boxes.contains d
   ·rfl
   ·have:=hbx d (QT.1 h); rw [hd] at this; cases this
  obtain ⟨env2,g3,g4⟩:=hF.frames d tm (fun s=>(env s).scrub (bH L X)) (by simp only [gi,hbd,hnb,QB,he,Q6,LE.scrub]);refine ⟨env2,g3,fun s hs=>?_⟩;have e1:=dF hsub _ hs.1;exact (g4 s (by simp only [e1]; exact ⟨e1,hs.2⟩)).trans e1
 ·simp only at hd hl;cases hlk:S'.lock d
  ·exact hsub d (hT'.row d e T xs hd hlk)
  ·rw [hF.lock] at hlk;simp only [gi,CF,QN] at hlk;rw [A0 hF hlk.1 hlk.2] at hd;simp only [Dm] at hd;obtain ⟨e0,h3,h4⟩:=hd;cases e0 <;> simp only [LE.scrub,reduceCtorEq] at h4;exact hT.row d _ _ _ h3 hl
 ·simp only at hd;have hlk:=hT'.frame d tm env hd;rw [hF.lock] at hlk;simp only [gi,CF,QN] at hlk;rw [A0 hF hlk.1 hlk.2] at hd;simp only [Dm] at hd;obtain ⟨e0,h3,h4⟩:=hd;cases e0 <;> simp only [LE.scrub,reduceCtorEq] at h4;exact hT.frame d _ _ h3
theorem Io (hT:Tidy bad S) (hsub:∀ n,bH L X n=true->bad n=true) (hL:∀ s,L.contains s=true->L0.contains s=true) {cs:List Cr} (hs:dl L cs=true) (hbx:∀ d∈cs.flatMap Cr.boxName,S.lock d=false)
  {x:dp cs} {ren:List (Nat×Option Nat)} (hg:jn S' cs=some (x,ren)) (hc:Hq S' L X cs ren=true):Fr L0 bad S { be S L X cs x with lock:=S.lock }/\Tidy bad { be S L X cs x with lock:=S.lock }:=by
 refine ⟨⟨rfl,rfl,fun s hs' hst=>?_,fun d hd hst=>?_,fun d tm env he=>?_⟩,⟨hT.lock,fun d e T xs hd hl=>?_,fun d tm env hd=>?_⟩⟩
 ·have hLs:L.contains s=false:=by
   cases h:L.contains s
   ·rfl
   ·rw [hL s h] at hs'; cases hs'
  have hnone:envOf cs x s=none:=by
   cases h:envOf cs x s with
   | none=>rfl
   | some a=>have:=wW cs x L hs s (by rw [h]; rfl); rw [hLs] at this; cases this
  simp only [be,hnone,hLs,QB];rw [dF hsub _ hst.1,gT hst.2]
 ·have hbd:bH L X d=false:=by
   cases h:bH L X d
   ·rfl
   ·have:=hT.lock d hd; rw [hsub d h] at this; cases this
  have hnone:lhOf cs x d=none:=by
   cases h:lhOf cs x d with
   | none=>rfl
   | some e =>
    rcases kf cs x hg hc d e h with h1 | h1
    ·rw [hbd] at h1; cases h1
    ·have:=hbx d (QT.1 h1);rw [hd] at this;cases this
  simp only [be,hnone,hbd,QB];cases h:S.lh d with
  | none=>rfl
  | some e0=>simp only [Q6,iu hsub e0 (hst e0 h)]
 ·have hd:=hT.frame d tm env he
  have hbd:bH L X d=false:=by
   cases h:bH L X d
   ·rfl
   ·have:=hT.lock d hd; rw [hsub d h] at this; cases this
  have hnone:lhOf cs x d=none:=by
   cases h:lhOf cs x d with
   | none=>rfl
   | some e =>
    rcases kf cs x hg hc d e h with h1 | h1
    ·rw [hbd] at h1; cases h1
    ·have:=hbx d (QT.1 h1);rw [hd] at this;cases this
  refine ⟨fun s=>(env s).scrub (bH L X),by simp only [be,hnone,hbd,QB,he,Q6,LE.scrub],fun s hs=>dF hsub _ hs.1⟩
 ·simp only [be] at hd hl;split at hd
  ·rename_i e' he;injection hd with hd
   subst hd;have hm:=wl cs x x S' ren hg he;obtain ⟨z,hz,rfl⟩:=QR.1 hm;simp only [Hq,CF] at hc;have hc:=hc.1;exact hsub _ (Qy.1 hc.1.1.1 _ (ga hz).1)
  ·cases hb:bH L X d
   ·rw [hb] at hd;simp only [QB,Dm] at hd;obtain ⟨e0,h3,h4⟩:=hd;cases e0 <;> simp only [LE.scrub,reduceCtorEq] at h4;exact hT.row d _ _ _ h3 hl
   ·rw [hb] at hd; cases hd
 ·simp only [be] at hd;split at hd
  ·rename_i e' he;injection hd with hd
   subst hd;exact absurd he (qN cs x d tm env)
  ·cases hb:bH L X d
   ·rw [hb] at hd;simp only [QB,Dm] at hd;obtain ⟨e0,h3,h4⟩:=hd;cases e0 <;> simp only [LE.scrub,reduceCtorEq] at h4;exact hT.frame d _ _ h3
   ·rw [hb] at hd; cases hd
end join
def Nv (P:Program) (inl:ON) (M:Nat->Prop) (w0:World):Prop:=∀ f G,inl f=some G->cX P f=true/\∀ (p0:PH) (S:St) (avs:List AV) (vs:List Value) (d:Nat) (K:St->Prop) (tm:Array Value) (w:World) (p:PH) (β:Nat->Value) (L:List Nat) (bad:Nat->Bool),
 G avs S d K->SatB M p0 w0 S tm w p β->vs.length=avs.length->(∀ (i:Nat) x v,avs[i]?=some x->vs[i]?=some v->x.val p β tm v/\x.noGd=true)->Tidy bad S->Named L bad->(∀ n,Bv n=true->bad n=true)->L.contains d=true->d<S.n ->
 Calls P f vs.toArray w fun e w'=>∃ v S3,e=.returned v/\K S3/\Fr L bad S S3/\Tidy bad S3/\Sat M p0 w0 S3 (tm.setIfInBounds d v) w'
theorem oK {α:Type} {k:IntKind} {h:α->Value->Prop}:∀ (A:List MapEntry) {e:MapEntry} {B:List MapEntry} {m:List (Int×α)},cz k h m (A++e::B) ->
  ∃ m1 x m2,m=m1++x::m2/\cz k h (m1++m2) (A++B)/\e.key=.int k x.1/\ak k x.1/\h x.2 e.val
 | [],e,B,m,hm=>by
  cases m with
  | nil=>cases hm
  | cons x m =>
   obtain ⟨e',es',he,h1,h2,h3,h4⟩:=hm;injection he with he1 he2
   subst he1 he2;exact ⟨[],x,m,rfl,h4,h1,h2,h3⟩
 | y::A,e,B,m,hm=>by
  cases m with
  | nil=>cases hm
  | cons x m =>
   obtain ⟨e',es',he,h1,h2,h3,h4⟩:=hm;injection he with he1 he2
   subst he1 he2;obtain ⟨m1,z,m2,rfl,g1,g2⟩:=oK A h4;exact ⟨x::m1,z,m2,rfl,⟨y,A++B,rfl,h1,h2,h3,g1⟩,g2⟩
theorem Km {es:Array MapEntry} {seen:Array Nat} (hn:(es.toList.map (·.born)).Nodup) {A B:List MapEntry} {e:MapEntry} (h:(leftOf es seen).toList=A++e::B):(leftOf es (seen.push e.born)).toList=A++B:=by
 have h1:(leftOf es (seen.push e.born)).toList=(leftOf es seen).toList.filter (fun x=>!(x.born == e.born)):=by
  simp only [leftOf,Array.toList_filter,List.filter_filter];congr 1;funext x;rw [Ry];simp only [QN,CF,Array.contains_eq_mem,Rh,Array.mem_push,beq_eq_false_iff_ne];constructor
  ·intro h; exact ⟨fun h2=>h (.inr h2),fun h2=>h (.inl h2)⟩
  ·rintro ⟨h1,h2⟩ (h3 | h3)
   ·exact h2 h3
   ·exact h1 h3
 have h2:((A++e::B).map (·.born)).Nodup:=by
  rw [<- h]
  have:(leftOf es seen).toList.Sublist es.toList:=by
   simp only [leftOf,Array.toList_filter];exact List.filter_sublist
  exact (this.map _).nodup hn
 rw [Rg,Q1,Tk,SN] at h2;obtain ⟨_,⟨h4,_⟩,h5⟩:=h2;rw [h1,h,SO,List.filter_cons]
 have hA:A.filter (fun x=>!(x.born == e.born))=A:=List.filter_eq_self.2 fun x hx=>by
  have:=h5 x.born (QR.2 ⟨x,hx,rfl⟩) e.born QJ;simpa using this
 have hB:B.filter (fun x=>!(x.born == e.born))=B:=List.filter_eq_self.2 fun x hx=>by
  have:x.born≠e.born:=fun h=>h4 (QR.2 ⟨x,hx,h⟩)
  simpa using this
 rw [hA,hB];simp
theorem kD {ss:Specs} (hss:ss.okA P M w0) {inl:ON} (hinl:Nv P inl M w0) {ops:Array Oper} {L:List Nat} {bad:Nat->Bool} (hN:Named L bad) (h9:∀ n,Bv n=true->bad n=true) {Q:Exit->Act->World->Prop}:∀ (os:List Oper) (S:St) (K:St->Prop) (a:Act) (w:World),
  (∀ o∈os,∀ d,o.dst=some d->L.contains d=true)->Tidy bad S->Sat M p0 w0 S a.tmps w->sA P ss inl ops os S K ->
  (∀ a' w' S',K S'->Fr L bad S S'->Tidy bad S'->Sat M p0 w0 S' a'.tmps w'->a'.defers=a.defers->Q .normal a' w')->wpList P ops Q os a w
 | [],S,K,a,w,_,hT,hS,h,hQ=>wpList_nil (hQ a w S h (Fr.refl _ _ _) hT hS rfl)
 | o::os,S,K,a,w,hd,hT,hS,h,hQ=>by
  simp only [sA] at h;split at h
  ·rename_i G avs d ho;unfold OR at ho;split at ho <;> try cases ho
   rename_i d' x args ts hg hdst hop;split at ho <;> try cases ho
   rename_i f c1 c2 hfn;split at ho <;> try cases ho
   rename_i G' hG;split at ho <;> simp only [pS,zn,reduceCtorEq] at ho;rename_i hdn;obtain ⟨rfl,rfl,rfl⟩:=ho;obtain ⟨hcall,hok⟩:=hinl f G' hG;obtain ⟨p,β,hB⟩:=hS;have hv:=aS hB (aL _) x;rw [hfn] at hv;obtain ⟨v1,v2,e1,k1,k2⟩:=hv;obtain ⟨l1,m1⟩:=jP (p:=p) (tm:=a.tmps) c1 v1.toList k1;obtain ⟨l2,m2⟩:=jP (p:=p) (tm:=a.tmps) c2 v2.toList k2
   have hc:=hok p0 S _ (v1.toList++args.toList.map a.eval++v2.toList) d' _ a.tmps w p β L bad h hB (by simp at l1 l2 |-; omega) (fun i y v hy hv=>by
    have noloc:∀ (c:List (Nat×Nat)) (i:Nat) (y:AV),(c.map fun x=>AV.loc x.1 x.2)[i]?=some y->y.noGd=true:=by
     intro c i y hy;rw [List.getElem?_map] at hy;obtain ⟨z,_,rfl⟩:=Dm.1 hy;rfl
    have hlen1:(c1.map fun x=>AV.loc x.1 x.2).length=v1.toList.length:=by simp at l1 |-; omega
    have hlen2:(args.toList.map (S.look [])).length=(args.toList.map a.eval).length:=by simp
    rw [List.append_assoc] at hy hv;rcases QO i v1.toList.length with hi | hi
    ·rw [List.getElem?_append_left (by omega)] at hy;rw [List.getElem?_append_left hi] at hv;exact ⟨m1 i y v hy hv,noloc _ _ _ hy⟩
    ·rw [List.getElem?_append_right (by omega),hlen1] at hy;rw [List.getElem?_append_right hi] at hv;generalize i - v1.toList.length=j at hy hv;rcases QO j (args.toList.map a.eval).length with hj | hj
     ·rw [List.getElem?_append_left (by omega),List.getElem?_map] at hy;rw [List.getElem?_append_left hj,List.getElem?_map] at hv;obtain ⟨z,hz,rfl⟩:=Dm.1 hy;rw [hz] at hv;simp only [Q6,pS] at hv;subst hv;exact ⟨aS hB (aL _) z,co _ _⟩
     ·rw [List.getElem?_append_right (by omega),hlen2] at hy;rw [List.getElem?_append_right hj] at hv;exact ⟨m2 _ y v hy hv,noloc _ _ _ hy⟩) hT hN h9 (hd o (by simp) d' hdst) (dh hdn)
   refine wpList_plain hg (fun K' hK=>?_);unfold Oper.wp;rw [rG hcall hop e1];simp only [Sm]
   have e2:(v1++Array.map a.eval args++v2)=(v1.toList++args.toList.map a.eval++v2.toList).toArray:=by
    apply QZ.1; simp
   rw [e2];refine hc.mono ?_;rintro en w' ⟨v,S3,rfl,h1,h2,h3,h4⟩;refine hK _ _ (kD hss hinl hN h9 os S3 K (a.put o.dst v) w' (fun o' ho'=>hd o' (by simp [ho'])) h3 (by rw [hdst]; exact h4) h1 (fun a' w'' S' g1 g2 g3 g4 g5=>hQ a' w'' S' g1 (h2.trans g2) g3 g4 (g5.trans (by rw [hdst]; rfl))))
  ·split at h
   ·rename_i d n k V l ho;unfold L9 at ho;split at ho <;> try cases ho
    rename_i d' x hg hdst hop;split at ho <;> try cases ho
    rename_i n' hloc;split at ho <;> try cases ho
    rename_i k' V' l' cur hn;split at ho <;> simp only [pS,zn,reduceCtorEq] at ho;rename_i hb;simp only [CF,QN] at hb;obtain ⟨rfl,rfl,rfl,ho⟩:=ho;injection ho with ho1 ho2
    subst ho1;have ho2:=eq_of_heq ho2;subst ho2;obtain ⟨p,β,hB⟩:=hS;have hv:=aS hB (aL _) x;rw [hloc] at hv;obtain ⟨b,e1,e2⟩:=hv;obtain ⟨r,bm,since,seen,c0,es,clock,f1,f2,f3,f4,f5,f6,f7,f8,_⟩:=hB.lhs n' _ hn;rw [e1] at f1;injection f1 with f1
    injection f1 with f1
    injection f1 with f1
    subst f1;have hnd:(es.toList.map (·.born)).Nodup:=f4.1.imp fun h=>Nat.ne_of_lt h
    refine wpList_plain hg (fun K' hK=>?_)
    have step:∀ (T:St) (v:Value) (w':World),(Instr.next (a.eval x) false o.type).run P w=.ok v w'->Sat M p0 w0 T (a.tmps.setIfInBounds d' v) w'->Fr L bad S T->Tidy bad T->sA P ss inl ops os T K->o.wp P a w K' Q:=by
     intro T v w' hrun hT' hfr htd hvc;refine EOK.of_run (S':=T) hdst (v:=v) (w':=w') (by simp only [execOp,hop,QL,hrun,QC,QU]) hT' K' Q (fun a' w'' hS' hdf=>hK _ _ (kD hss hinl hN h9 os T K a' w'' (fun o' ho'=>hd o' (by simp [ho'])) htd hS' hvc (fun a'' w3 S' g1 g2 g3 g4 g5=>hQ a'' w3 S' g1 (hfr.trans g2) g3 g4 (g5.trans hdf))))
    rw [e2] at step;rcases run_next_at w o.type b bm since c0 seen es clock f2 (hB.agr _ _ f3) f5 f6 with ⟨h0,hrun⟩ | ⟨e,he,w1,hw1,hrun⟩
    ·have hnil:l'=[]:=by
      have:(leftOf es seen).toList=[]:=by simpa using h0
      rw [this] at f8;cases l' with
      | nil=>rfl
      | cons x l=>obtain ⟨_,_,h,_⟩:=f8; cases h
     exact step _ _ _ hrun ⟨p,β,hB.set (a:=.tup (.bool false) .tnil) (dh hb.1) ⟨[.bool false],rfl,rfl,trivial⟩⟩ (iG (hd o (by simp) _ hdst) _) (eJ hT _ _) (h.1 hnil)
    ·obtain ⟨A,B,hAB⟩:=List.append_of_mem he;have hleft:=Km hnd hAB;rw [hAB] at f8;obtain ⟨l1,y,l2,rfl,g1,g2,g3,g4⟩:=oK A f8
     have hmem:e∈es.toList:=by
      have:(leftOf es seen).toList.Sublist es.toList:=by
       simp only [leftOf,Array.toList_filter];exact List.filter_sublist
      exact this.subset he
     have hB1:SatB M p0 w0 S a.tmps w1 p β:=by
      rcases hw1 with rfl | rfl
      ·exact hB
      ·exact hB.drew
     have hf2:w1.heap[b]?=some (.mapIter (some bm) since seen c0):=by
      rcases hw1 with rfl | rfl <;> exact f2
     have hset:=MapKept.heap_set (w:=w1) (r:=b) (o':=.mapIter (some bm) since (seen.push e.born) clock) hf2
     have hturn:=hB1.turn (d:=n') (e':=.iter k' V' (l1++l2) (some y)) (w':=ChangeMaps.setBlock w1 b (.mapIter (some bm) since (seen.push e.born) clock)) hn rfl (by rw [e1]; rfl) rfl rfl rfl (by simp [ChangeMaps.setBlock]) (fun i hi=>hset.2 i hi)
      ⟨b,bm,since,seen.push e.born,clock,es,clock,e1,hset.1,f3,f4,f5,f7,f7,by rw [hleft]; exact g1,fun z hz=>by
       injection hz with hz
       subst hz;exact ⟨e,hmem,seen,rfl,rfl,g2,g3,g4⟩⟩
     have hset2:=hturn.set (d:=d') (x:=.tuple #[.bool true,e.key,e.val]) (a:=.tup (.bool true) (.tup (.int k' y.1) (.tup (V'.av y.2) .tnil))) (dh hb.1) ⟨[.bool true,e.key,e.val],rfl,rfl,⟨g2,g3⟩,dI (tm:=#[]) (jU.1 g4),trivial⟩;have hfe:=cW (L:=L) hT hb.2 (.iter k' V' (l1++l2) (some y));exact step _ _ _ hrun ⟨p,β,hset2⟩ (hfe.trans (iG (hd o (by simp) _ hdst) _)) (eJ (bW hT (fun t T xs e=>by cases e)) _ _) (h.2 l1 y l2 rfl)
   split at h
   ·rename_i ps S1 h1;obtain ⟨hp,hr⟩:=lW _ _ h;have hfr:=Bo (L:=L) hN hT (hd o (by simp)) h1;exact wM hss h1 hp hS (fun a' w' hS' hdf=>kD hss hinl hN h9 os S1 K a' w' (fun o' ho'=>hd o' (by simp [ho'])) hfr.2 hS' hr (fun a'' w'' S' g1 g2 g3 g4 g5=>hQ a'' w'' S' g1 (hfr.1.trans g2) g3 g4 (g5.trans hdf)))
   ·exact h.elim
theorem wt {c:Code} {L1:List Nat} {ds:List Deferred} {A:LoopAnn} {body:St->(St->Prop)->(Nat->St->Prop)->(St->Prop)->Prop}
  (core:∀ (L:List Nat) (bad:Nat->Bool) (S:St) (K:St->Prop) (X:Nat->St->Prop) (R:St->Prop) (a:Act) (w:World),body S K X R->Named L bad->(∀ n,Bv n=true->bad n=true) ->
   (∀ s,L1.contains s=true->L.contains s=true)->Tidy bad S->Sat M p0 w0 S a.tmps w->a.defers=ds->c.wp P (Ns M p0 w0 ds L bad S K X R) a w)
  {L:List Nat} {bad:Nat->Bool} {S:St} {K:St->Prop} {X:Nat->St->Prop} {R:St->Prop} {a:Act} {w:World} (h:rx A L1 S body K X R) (hN:Named L bad) (h9:∀ n,Bv n=true->bad n=true)
  (hL':∀ s,L1.contains s=true->L.contains s=true) (hT:Tidy bad S) (hS:Sat M p0 w0 S a.tmps w) (hd:a.defers=ds):c.wp P (Ns M p0 w0 ds L bad S K X R) a w:=by
 unfold rx at h;split at h
 case isFalse=>exact h.elim
 rename_i hck;simp only [CF] at hck;obtain ⟨⟨hbx,hc2⟩,hc3,hsi⟩:=hck;have hbx:∀ d∈A.cs.flatMap Cr.boxName,S.lock d=false:=fun d hd=>by simpa using Qy.1 hbx d hd
 obtain ⟨hbody,hafter⟩:=h
 have h9i:∀ n,Bv n=true->bH L1 (np S A.cs) n=true:=fun n hn=>by
  simp only [bH,Ri];exact .inr hn
 have hsub:∀ n,bH L1 (np S A.cs) n=true->bad n=true:=xf hN h9 hL' (fun n hn=>by
  unfold np at hn;split at hn
  ·rename_i x0 ren hg
   exact qS hT (L:=L1) (X:=bn ren) h9 (fun s hs=>by
    have:=hN s (hL' s hs) 0;simpa [bB] using this) A.cs x0 ren hg hc3 n hn
  ·cases hn)
 have hpre:=LW (boxes:=A.cs.flatMap Cr.boxName) hT hsub hL' hbx;refine wp_mono (core L1 (bH L1 (np S A.cs)) _ _ _ _ a w hbody (pj hc2) h9i (fun s hs=>hs) (DS hT hsub) (H8 hS) hd) ?_;intro e a' w' hq;cases e with
 | normal =>
  obtain ⟨S',h1,h2,h3,h4,h5⟩:=hq;split at h1
  ·exact h1.elim
  rename_i x' ren' hg';split at h1
  case isFalse=>exact h1.elim
  rename_i hck';obtain ⟨p,β,hB⟩:=h4;have hb:=AX hB hg' hck' hsi;have hag:=y7 (cs:=A.cs) h2 x';have hj:=Io (L0:=L) hT hsub hL' hc3 hbx hg' hck';exact ⟨_,hafter x' h1,hj.1,hj.2,Sat.congr ⟨p,_,hb⟩ hag.1 hag.2.1 hag.2.2,h5⟩
 | exit i =>
  obtain ⟨S',h1,h2,h3,h4,h5⟩:=hq;have:=hpre S' h2 h3;exact ⟨_,h1,this.1,this.2,Sat.congr h4 rfl rfl rfl,h5⟩
 | ret =>
  obtain ⟨S',h1,h2,h3,h4,h5⟩:=hq;have:=hpre S' h2 h3;exact ⟨_,h1,this.1,this.2,Sat.congr h4 rfl rfl rfl,h5⟩
 | _=>exact hq.elim
theorem Cw {ss:Specs} (hss:ss.okA P M w0) {inl:ON} (hinl:Nv P inl M w0) {ann:Nat->Option LoopGen} {ds:List Deferred}:∀ (c:Code) (L:List Nat) (bad:Nat->Bool) (S:St) (K:St->Prop) (X:Nat->St->Prop) (R:St->Prop) (a:Act) (w:World),
  vc P ss inl ann c S K X R->Named L bad->(∀ n,Bv n=true->bad n=true)->(∀ s,(df ann c).contains s=true->L.contains s=true)->Tidy bad S->Sat M p0 w0 S a.tmps w->a.defers=ds ->
  c.wp P (Ns M p0 w0 ds L bad S K X R) a w:=by
 intro c
 induction c with
 | skip=>intro L bad S K X R a w h _ _ _ hT hS hd; exact wp_skip ⟨S,h,Fr.refl _ _ _,hT,hS,hd⟩
 | exit id=>intro L bad S K X R a w h _ _ _ hT hS hd; exact wp_exit ⟨S,h,Fr.refl _ _ _,hT,hS,hd⟩
 | ret=>intro L bad S K X R a w h _ _ _ hT hS hd; exact wp_ret ⟨S,h,Fr.refl _ _ _,hT,hS,hd⟩
 | region id ops draw =>
  intro L bad S K X R a w h hN h9 hL hT hS hd;simp only [vc] at h;split at h
  ·rename_i hdr;simp only [CF,QN] at hdr;rw [hdr.1]
   refine wp_region_list (kD hss hinl hN h9 ops.toList S _ a w (fun o ho d hdst=>hL d (by
    simp only [df,QT];exact RS.2 ⟨o,ho,hdst⟩)) hT hS h (fun a' w' S' h1 h2 h3 h4 h5=>?_))
   have hcl:=fS (L:=L) h3;exact ⟨S'.clean,h1,h2.trans hcl.1,hcl.2,eq h4,h5.trans hd⟩
  split at h
  ·rename_i G hG;cases draw
   ·simp at hG
   split at h
   case h_2=>exact h.elim
   rename_i g hgg;split at h
   case isFalse=>exact h.elim
   rename_i hmix;refine wt (L1:=ops.toList.filterMap (·.dst)) (fun L bad S K X R a w h hN h9 hL hT hS hd=>?_) h hN h9 (fun s hs=>hL s (by simpa only [df] using hs)) hT hS hd;have hcl:=fS (L:=L) hT
   refine wp_region_any hmix (AN (M:=M) (p0:=p0) (w0:=w0) hss hN (fun o ho d hdst=>hL d (by
     simp only [QT];exact RS.2 ⟨o,ho,hdst⟩)) (S0:=S) (K:=fun S'=>K S'.clean) (fun _ _ _ h=>h) (fun S' a' w' h1 h2 h3 h4 h5=>?_) ops.size _ S.clean a _ h hcl.1 hcl.2 ?_ hd)
   ·have hc2:=fS (L:=L) h3;exact ⟨S'.clean,h1,h2.trans hc2.1,hc2.2,eq h4,h5⟩
   ·obtain ⟨p,β,h⟩:=eq hS;exact ⟨p,β,⟨h.keep.os,h.keep.tape,h.keep.output,h.keep.size,h.keep.block⟩,h.agr,h.old,h.size,h.lhs,h.owns,h.inj,h.env⟩
  cases draw
  ·simp only [Qz,QW] at h;split at h
   ·rename_i ps S' hr;obtain ⟨h1,h2⟩:=lW _ _ h
    have hdst:∀ o∈ops.toList,∀ d,o.dst=some d->L.contains d=true:=fun o ho d hdst=>hL d (by
     simp only [df,QT];exact RS.2 ⟨o,ho,hdst⟩)
    unfold PR at hr;split at hr
    ·rename_i r hr0;injection hr with hr
     subst hr;have hfr:=wC (L:=L) hN ops.toList S S' ps hT hdst hr0;have hcl:=fS (L:=L) hfr.2;refine wp_region_list (lF (ss:=ss.cutIf _ _) (Specs.okA_cutIf hss) ops.toList S S' ps a w hr0 h1 hS (fun a' w' h3 h4=>?_));exact ⟨S'.clean,h2,hfr.1.trans hcl.1,hcl.2,eq h3,h4.trans hd⟩
    ·have hfz:=dm (L:=L) (bad:=bad) (eG ss ops S) S hT;have hfr:=wC (L:=L) hN ops.toList _ S' ps hfz.2 hdst hr;have hcl:=fS (L:=L) hfr.2
     have hS':Sat M p0 w0 (S.freeze (eG ss ops S)) a.tmps w:=by
      obtain ⟨p,β,hB⟩:=hS;obtain ⟨p1,_,hB1⟩:=bZ (eG ss ops S) S p hB;exact ⟨p1,β,hB1⟩
     refine wp_region_list (lF (ss:=ss.cutIf _ _) (Specs.okA_cutIf hss) ops.toList _ S' ps a w hr h1 hS' (fun a' w' h3 h4=>?_));exact ⟨S'.clean,h2,(hfz.1.trans hfr.1).trans hcl.1,hcl.2,eq h3,h4.trans hd⟩
   ·exact h.elim
  ·simp only [if_true] at h;split at h
   ·rename_i ps S' hr;obtain ⟨h1,h2⟩:=lW _ _ h
    have hfr:=MN (L:=L) hN hT (fun o ho d hdst=>hL d (by
     simp only [df,QT];exact RS.2 ⟨o,ho,hdst⟩)) hr
    have hcl:=fS (L:=L) hfr.2;refine AU (ss:=ss.cutIf _ _) (Specs.okA_cutIf hss) hr h1 (eq hS) (fun a' w' h3 h4=>?_);exact ⟨S'.clean,h2,hfr.1.trans hcl.1,hcl.2,eq h3,h4.trans hd⟩
   ·exact h.elim
 | seq c1 c2 ih1 ih2 =>
  intro L bad S K X R a w h hN h9 hL hT hS hd;refine wp_seq (wp_mono (ih1 L bad S _ X R a w h hN h9 (fun s hs=>hL s (by simp only [df]; exact fU s hs)) hT hS hd) ?_);intro e a' w' hq;cases e with
  | normal =>
   obtain ⟨S1,h1,h2,h3,h4,h5⟩:=hq;refine wp_mono (ih2 L bad S1 K X R a' w' h1 hN h9 (fun s hs=>hL s (by simp only [df]; exact bj s hs)) h3 h4 h5) ?_;intro e a'' w'' hq;cases e with
   | normal=>obtain ⟨S2,k1,k2,k3⟩:=hq; exact ⟨S2,k1,h2.trans k2,k3⟩
   | exit i=>obtain ⟨S2,k1,k2,k3⟩:=hq; exact ⟨S2,k1,h2.trans k2,k3⟩
   | ret=>obtain ⟨S2,k1,k2,k3⟩:=hq; exact ⟨S2,k1,h2.trans k2,k3⟩
   | _=>exact hq.elim
  | exit i=>exact hq
  | ret=>exact hq
  | _=>exact hq.elim
 | cond c1 x y ihx ihy =>
  have core:∀ (L:List Nat) (bad:Nat->Bool) (S:St) (K:St->Prop) (X:Nat->St->Prop) (R:St->Prop) (a:Act) (w:World),uG S c1 (vc P ss inl ann x S K X R) (vc P ss inl ann y S K X R)->Named L bad->(∀ n,Bv n=true->bad n=true) ->
    (∀ s,(df ann x++df ann y).contains s=true->L.contains s=true)->Tidy bad S->Sat M p0 w0 S a.tmps w->a.defers=ds->(Code.cond c1 x y).wp P (Ns M p0 w0 ds L bad S K X R) a w:=by
   intro L bad S K X R a w h hN h9 hL hT hS hd;unfold uG at h;split at h
   ·rename_i t ht
    have hv:a.eval c1=.bool t:=by
     obtain ⟨p,β,hB⟩:=hS;have:=aS hB (aL _) c1;rw [ht] at this;exact this
    cases ht':t
    ·exact wp_cond_false (by rw [hv,ht']) (ihy L bad S K X R a w (h.2 ht') hN h9 (fun s hs=>hL s (bj s hs)) hT hS hd)
    ·exact wp_cond_true (by rw [hv,ht']) (ihx L bad S K X R a w (h.1 ht') hN h9 (fun s hs=>hL s (fU s hs)) hT hS hd)
   ·rename_i t f ht
    have hv:∃ b,a.eval c1=.bool b/\(b=true->t)/\(b=false->f):=by
     obtain ⟨p,β,hB⟩:=hS;have:=aS hB (aL _) c1;rw [ht] at this;exact this
    obtain ⟨b,hv,h1,h2⟩:=hv;cases hb:b
    ·exact wp_cond_false (by rw [hv,hb]) (ihy L bad S K X R a w (h.2 (h2 hb)) hN h9 (fun s hs=>hL s (bj s hs)) hT hS hd)
    ·exact wp_cond_true (by rw [hv,hb]) (ihx L bad S K X R a w (h.1 (h1 hb)) hN h9 (fun s hs=>hL s (fU s hs)) hT hS hd)
   ·exact h.elim
  intro L bad S K X R a w h hN h9 hL hT hS hd;simp only [vc] at h;split at h
  ·refine core L bad S K X R a w ?_ hN h9 (fun s hs=>hL s (by simp only [df]; exact bj s hs)) hT hS hd;unfold OO at h;unfold uG;split at h
   ·rename_i t ht;rw [ht];cases t
    ·exact ⟨(fun e=>by cases e),fun _=>h⟩
    ·exact ⟨fun _=>h,(fun e=>by cases e)⟩
   ·exact h.elim
  split at h
  ·exact core L bad S K X R a w h hN h9 (fun s hs=>hL s (by simp only [df]; exact bj s hs)) hT hS hd
  ·rename_i G hG;split at h
   case h_2=>exact h.elim
   rename_i g hgg;generalize G.A g.1=A at h;have hL':∀ s,(G.wr++(df ann x++df ann y)).contains s=true->L.contains s=true:=fun s hs=>hL s (by simpa only [df,B7,hG] using hs)
   generalize hLg:G.wr++(df ann x++df ann y)=L1 at h hL';unfold rx at h;split at h
   case isFalse=>exact h.elim
   rename_i hck;simp only [CF] at hck;obtain ⟨⟨hbx,hc2⟩,hc3,hsi⟩:=hck;have hbx:∀ d∈A.cs.flatMap Cr.boxName,S.lock d=false:=fun d hd=>by simpa using Qy.1 hbx d hd
   obtain ⟨hbody,hafter⟩:=h
   have h9i:∀ n,Bv n=true->bH L1 (np S A.cs) n=true:=fun n hn=>by
    simp only [bH,Ri];exact .inr hn
   have hsub:∀ n,bH L1 (np S A.cs) n=true->bad n=true:=xf hN h9 hL' (fun n hn=>by
    unfold np at hn;split at hn
    ·rename_i x0 ren hg
     exact qS hT (L:=L1) (X:=bn ren) h9 (fun s hs=>by
      have:=hN s (hL' s hs) 0;simpa [bB] using this) A.cs x0 ren hg hc3 n hn
    ·cases hn)
   have hpre:=LW (boxes:=A.cs.flatMap Cr.boxName) hT hsub hL' hbx;refine wp_mono (core L1 (bH L1 (np S A.cs)) _ _ _ _ a w hbody (pj hc2) h9i (fun s hs=>by rw [<- hLg]; exact bj s hs) (DS hT hsub) (H8 hS) hd) ?_;intro e a' w' hq;cases e with
   | normal =>
    obtain ⟨S',h1,h2,h3,h4,h5⟩:=hq;split at h1
    ·exact h1.elim
    rename_i x' ren' hg';split at h1
    case isFalse=>exact h1.elim
    rename_i hck';obtain ⟨p,β,hB⟩:=h4;have hb:=AX hB hg' hck' hsi;have hag:=y7 (cs:=A.cs) h2 x';have hj:=Io (L0:=L) hT hsub hL' hc3 hbx hg' hck';exact ⟨_,hafter x' h1,hj.1,hj.2,Sat.congr ⟨p,_,hb⟩ hag.1 hag.2.1 hag.2.2,h5⟩
   | exit i =>
    obtain ⟨S',h1,h2,h3,h4,h5⟩:=hq;have:=hpre S' h2 h3;exact ⟨_,h1,this.1,this.2,Sat.congr h4 rfl rfl rfl,h5⟩
   | ret =>
    obtain ⟨S',h1,h2,h3,h4,h5⟩:=hq;have:=hpre S' h2 h3;exact ⟨_,h1,this.1,this.2,Sat.congr h4 rfl rfl rfl,h5⟩
   | _=>exact hq.elim
 | block id c ih =>
  have core:∀ (L:List Nat) (bad:Nat->Bool) (S:St) (K:St->Prop) (X:Nat->St->Prop) (R:St->Prop) (a:Act) (w:World),vc P ss inl ann c S K (fun i S'=>bif Nat.beq i id then K S' else X i S') R->Named L bad->(∀ n,Bv n=true->bad n=true) ->
    (∀ s,(df ann c).contains s=true->L.contains s=true)->Tidy bad S->Sat M p0 w0 S a.tmps w->a.defers=ds->(Code.block id c).wp P (Ns M p0 w0 ds L bad S K X R) a w:=by
   intro L bad S K X R a w h hN h9 hL hT hS hd;refine wp_block (wp_mono (ih L bad S K _ R a w h hN h9 hL hT hS hd) ?_);intro e a' w' hq;cases e with
   | normal=>exact hq
   | exit i =>
    obtain ⟨S',h1,h2⟩:=hq;simp only [Exit.inBlock];cases hb:Nat.beq i id
    ·rw [hb] at h1;rw [if_neg (fun e=>by subst e; simp at hb)];exact ⟨S',h1,h2⟩
    ·rw [hb] at h1;rw [if_pos (CC hb)];exact ⟨S',h1,h2⟩
   | ret=>exact hq
   | _=>exact hq.elim
  intro L bad S K X R a w h hN h9 hL hT hS hd;simp only [vc] at h;split at h
  ·exact core L bad S K X R a w h hN h9 (fun s hs=>hL s (by simp only [df]; exact bj s hs)) hT hS hd
  ·rename_i G hG;split at h
   case h_2=>exact h.elim
   rename_i g hgg;exact wt (L1:=G.wr++df ann c) (fun L bad S K X R a w h hN h9 hL hT hS hd=>core L bad S K X R a w h hN h9 (fun s hs=>hL s (bj s hs)) hT hS hd) h hN h9 (fun s hs=>hL s (by simpa only [df,B7,hG] using hs)) hT hS hd
 | loop c ih =>
  intro L bad S K X R a w h hN h9 hL hT hS hd;simp only [vc] at h;split at h
  ·rename_i G hG;refine wp_loop_ghost (fun n a w=>∃ S',Le (vc P ss inl ann c) X R n S'/\Fr L bad S S'/\Tidy bad S'/\Sat M p0 w0 S' a.tmps w/\a.defers=ds) (G.wr.length+1) ⟨S,h,Fr.refl _ _ _,hT,hS,hd⟩ ?_;rintro n a1 w1 ⟨S1,h1,h2,h3,h4,h5⟩;cases n with
   | zero=>exact h1.elim
   | succ n =>
    refine wp_mono (ih L bad S1 _ X R a1 w1 h1 hN h9 (fun s hs=>hL s (by simp only [df]; exact bj s hs)) h3 h4 h5) ?_;intro e a' w' hq;cases e with
    | normal =>
     obtain ⟨S',k1,k2,k3,k4,k5⟩:=hq;exact ⟨n,Nat.lt_succ_self _,S',k1,h2.trans k2,k3,k4,k5⟩
    | exit i =>
     obtain ⟨S',k1,k2,k3⟩:=hq;exact ⟨S',k1,h2.trans k2,k3⟩
    | ret =>
     obtain ⟨S',k1,k2,k3⟩:=hq;exact ⟨S',k1,h2.trans k2,k3⟩
    | _=>exact hq.elim
  split at h
  ·rename_i G hG;have hfz:=r7 (L:=L) (bad:=bad) G.fz S hT
   have hS1:Sat M p0 w0 (S.closes G.fz) a.tmps w:=by
    obtain ⟨p,β,hB⟩:=hS;obtain ⟨p1,_,hB1⟩:=mz G.fz S p hB;exact ⟨p1,β,hB1⟩
   have hF0:=hfz.1;replace hT:=hfz.2;replace hS:=hS1;clear hfz hS1;generalize S.closes G.fz=S1 at *;split at h
   case h_2=>exact h.elim
   rename_i g hgg;generalize G.A g.1=A at h;unfold Lf at h;split at h
   ·exact h.elim
   rename_i x0 ren hg;split at h
   case isFalse=>exact h.elim
   rename_i hck;simp only [CF] at hck;obtain ⟨⟨hc1,hc2⟩,hc3,hsi⟩:=hck;obtain ⟨hi0,hround⟩:=h;have hNi:=pj (X:=bn ren) hc2
   have h9i:∀ n,Bv n=true->bH (G.wr++df ann c) (bn ren) n=true:=fun n hn=>by
    simp only [bH,Ri];exact .inr hn
   have hsub:∀ n,bH (G.wr++df ann c) (bn ren) n=true->bad n=true:=xf hN h9 (fun s hs=>hL s (by simpa only [df,B7,hG] using hs)) (fun n hn=>by
    exact qS hT (L:=G.wr++df ann c) (X:=bn ren) h9 (fun s hs=>by
     have:=hN s (hL s (by simpa only [df,B7,hG] using hs)) 0;simpa [bB] using this) A.cs x0 ren hg hc3 n hn)
   have hTi:∀ x,Tidy (bH (G.wr++df ann c) (bn ren)) (be S1 (G.wr++df ann c) (bn ren) A.cs x):=fun x=>Kj hg hc1 x
   have hfin:∀ (x:dp A.cs) (S':St),Fr (G.wr++df ann c) (bH (G.wr++df ann c) (bn ren)) (be S1 (G.wr++df ann c) (bn ren) A.cs x) S'->Tidy (bH (G.wr++df ann c) (bn ren)) S' ->
     Fr L bad S1 { S' with lock:=S1.lock }/\Tidy bad { S' with lock:=S1.lock }:=fun x S' hF hT' =>
    Ms hT hg hsub hc1 hc3 (fun s hs=>hL s (by simpa only [df,B7,hG] using hs)) x hF hT'
   have hstart:Sat M p0 w0 (be S1 (G.wr++df ann c) (bn ren) A.cs x0) a.tmps w:=by
    obtain ⟨p,β,hB⟩:=hS;exact ⟨p,_,AX hB hg hc1 hsi⟩
   refine wp_loop_ghost (fun n a w=>∃ x,A.inv x/\A.mu x=n/\Sat M p0 w0 (be S1 (G.wr++df ann c) (bn ren) A.cs x) a.tmps w/\a.defers=ds) (A.mu x0) ⟨x0,hi0,rfl,hstart,hd⟩ ?_;rintro n a1 w1 ⟨x,hix,rfl,hSx,hdx⟩;refine wp_mono (ih (G.wr++df ann c) (bH (G.wr++df ann c) (bn ren)) _ _ _ _ a1 w1 (hround x hix) hNi h9i (fun s hs=>bj s hs) (hTi x) hSx hdx) ?_;intro e a' w' hq;cases e with
   | normal =>
    obtain ⟨S',h1,h2,h3,h4,h5⟩:=hq;split at h1
    ·exact h1.elim
    rename_i x' ren' hg';split at h1
    case isFalse=>exact h1.elim
    rename_i hck';have hcz:=r7 (L:=G.wr++df ann c) (bad:=bH (G.wr++df ann c) (bn ren)) G.fz S' h3;have h2:=h2.trans hcz.1;obtain ⟨p,β,hB⟩:=h4;obtain ⟨p,_,hB⟩:=mz G.fz S' p hB;have hb:=AX hB hg' hck' hsi;have hag:=Bb h2 (x':=x') (fun y s=>EP A.cs x y s) (fun y d=>Ik A.cs x y d) (fun d hd=>nD A.cs x d hd);exact ⟨_,h1.2,x',h1.1,rfl,Sat.congr ⟨p,_,hb⟩ hag.1.symm hag.2.1.symm (by rw [hag.2.2]; rfl),h5⟩
   | exit i =>
    obtain ⟨S',h1,h2,h3,h4,h5⟩:=hq;have:=hfin x S' h2 h3;exact ⟨_,h1,hF0.trans this.1,this.2,Sat.congr h4 rfl rfl rfl,h5⟩
   | ret =>
    obtain ⟨S',h1,h2,h3,h4,h5⟩:=hq;have:=hfin x S' h2 h3;exact ⟨_,h1,hF0.trans this.1,this.2,Sat.congr h4 rfl rfl rfl,h5⟩
   | _=>exact hq.elim
  ·exact h.elim
 | _=>intro L bad S K X R a w h; exact h.elim
end
def fy (ann:Nat->Option LoopGen) (S:St):St:=match ann 2000000 with
 | some _=>S.entry 900001 .dead
 | none=>S
def uk (P:Program) (S:St):ResultVar->Option AV
 | .tmp t=>some ((S.env t).opn [])
 | .cell t ty=>match S.env t with
  | .loc d 0=>match S.lh d with
   | some (.cells c)=>match fp P ty with
    | some n=>if Nat.beq c.len n then some c else none
    | none=>none
   | _=>none
  | _=>none
def jZ (P:Program) (S:St):List ResultVar->Option (List AV)
 | []=>some []
 | r::rs=>match uk P S r,jZ P S rs with
  | some a,some avs=>some (a::avs)
  | _,_=>none
def Il (P:Program) (S:St) (d:Nat) (rvs:List ResultVar) (K:St->Prop) (S':St):Prop :=
 match jZ P S' rvs with
 | some avs=>match S'.lh de with
  | some (.frame _ env')=>K (tp S S' env' d avs)
  | _=>False
 | none=>False
def OP (P:Program) (ss:Specs) (inl:ON) (ann:Nat->Option LoopGen) (f:FuncId) (avs:List AV) (S:St) (d:Nat) (K:St->Prop):Prop :=
 match P.funcs[f]? with
 | none=>False
 | some fn=>match fn.body with
  | none=>False
  | some c=>if Nat.ble avs.length fn.ntmps&&(df ann c).all (Nat.blt · 900000) then
    ∀ tm:Array Value,vc P ss inl ann c (fy ann (dQ tm S.clean fn.ntmps avs)) (Il P S.clean d fn.results.toList K) (fun _ _=>False) (Il P S.clean d fn.results.toList K)
   else False
def OX (ann:Nat->Option LoopGen) (f:Nat):Nat->Option LoopGen:=fun n=>match ann (1000000000000000 * (f+1)+n) with
 | some a=>some a
 | none=>ann n
def Kt (P:Program) (ss:Specs) (ann:Nat->Option LoopGen):Nat->ON
 | 0=>fun _=>none
 | k+1=>fun f=>match ann (3000000+f) with
  | some _=>if cX P f then some (OP P ss (Kt P ss (OX ann f) k) (fun n=>ann (100000000 * (f+1)+n)) f) else none
  | none=>none
section
variable {P:Program} {p p0:PH} {w w0:World} {M:Nat->Prop} {S:St} {tm:Array Value} {β:Nat->Value}
theorem Dl (hS:SatB M p0 w0 S tm w p β) {r:ResultVar} {a:AV} (h:uk P S r=some a) :
  ∃ v,(match r with | .tmp t=>pure (tm.getD t undef) | .cell t ty=>(do loadVar ty (<- asAddr (tm.getD t undef))):Sem Value).run P w=.ok v w/\a.val p β tm v:=by
 cases r with
 | tmp t =>
  simp only [uk,pS] at h;subst h;exact ⟨_,rfl,da (aL _) _ _ (hS.env t)⟩
 | cell t ty =>
  simp only [uk] at h;split at h <;> try cases h
  rename_i d he;split at h <;> try cases h
  rename_i c hc;split at h <;> try cases h
  rename_i n hn;split at h <;> simp only [pS,reduceCtorEq] at h;rename_i hl;subst h;have hl:=CC hl;have hv:=hS.env t;rw [he] at hv;obtain ⟨b,e1,e2⟩:=hv;obtain ⟨b',cs,ty',e3,e4,e5⟩:=hS.lhs d _ hc;rw [e1] at e3;injection e3 with e3
  injection e3 with e3
  injection e3 with e3
  subst e3;have hlen:=AV.len_cells _ _ e5;obtain ⟨v,h1,h2⟩:=gq (P:=P) (w:=w) (tm:=tm) hn e5 (by omega) (b:=b) (o:=0) (fun j u hu=>by rw [eH e4]; simpa using hu);refine ⟨v,?_,h2⟩;show Sem.run P (do loadVar ty (<- asAddr (tm.getD t undef))) w=_;rw [e2];simpa [Instr.loadAt,Instr.sureAddr,asAddr] using h1
theorem pV (hS:SatB M p0 w0 S tm w p β):∀ (rs:List ResultVar) (avs:List AV),jZ P S rs=some avs ->
  ∃ vs:List Value,(rs.mapM (fun r=>(match r with | .tmp t=>pure (tm.getD t undef) | .cell t ty=>(do loadVar ty (<- asAddr (tm.getD t undef))):Sem Value))).run P w=.ok vs w/\vs.length=avs.length /\
   ∀ (i:Nat) a v,avs[i]?=some a->vs[i]?=some v->a.val p β tm v
 | [],avs,h=>by
  simp only [jZ,pS] at h;subst h;exact ⟨[],by simp,rfl,fun i a v ha=>by simp at ha⟩
 | r::rs,avs,h=>by
  simp only [jZ] at h;split at h <;> simp only [pS,reduceCtorEq] at h;rename_i a avs' h1 h2;subst h;obtain ⟨v,k1,k2⟩:=Dl hS h1;obtain ⟨vs,k3,k4,k5⟩:=pV hS rs avs' h2;refine ⟨v::vs,?_,by simp [k4],fun i a' v' ha hv=>?_⟩
  ·simp only [List.mapM_cons,QL];rw [k1];simp only [QC];rw [k3];simp
  ·match i with
   | 0=>simp at ha hv; subst ha; subst hv; exact k2
   | i+1=>exact k5 i a' v' (by simpa using ha) (by simpa using hv)
theorem sK (hS:SatB M p0 w0 S tm w p β) {fn:Func} {avs:List AV} (h:jZ P S fn.results.toList=some avs) :
  ∃ vs:List Value,(results fn tm).run P w=.ok (cA vs) w/\vs.length=avs.length/\∀ (i:Nat) a v,avs[i]?=some a->vs[i]?=some v->a.val p β tm v:=by
 obtain ⟨vs,h1,h2,h3⟩:=pV hS fn.results.toList avs h;refine ⟨vs,?_,h2,h3⟩
 have e:(fn.results.mapM (fun r=>(match r with | .tmp t=>pure (tm.getD t undef) | .cell t ty=>(do loadVar ty (<- asAddr (tm.getD t undef))):Sem Value)))=(List.toArray <$> fn.results.toList.mapM (fun r=>(match r with | .tmp t=>pure (tm.getD t undef) | .cell t ty=>(do loadVar ty (<- asAddr (tm.getD t undef))):Sem Value))):=by
  rw [Array.mapM_eq_mapM_toList]
 have hr:(results fn tm)=(do
   let vs <- fn.results.mapM (fun r=>(match r with | .tmp t=>pure (tm.getD t undef) | .cell t ty=>(do loadVar ty (<- asAddr (tm.getD t undef))):Sem Value))
   pure (if h:vs.size=1 then vs[0] else .tuple vs)):=rfl
 rw [hr,e];simp only [QL,Sem.run_map,h1];have:(Result.ok vs w).andThen (fun a w'=>(Result.ok a.toArray w':Result (Array Value)))=.ok vs.toArray w:=rfl
 match vs with
 | []=>rfl
 | [v]=>rfl
 | v::u::vs=>rfl
theorem FT {ann:Nat->Option LoopGen} (h:SatB M p0 w0 S tm w p β):SatB M p0 w0 (fy ann S) tm w p β:=by
 unfold fy;split
 ·exact h.entry trivial (fun b _ hb=>by rename_i h; cases h) (fun _ _ _ _ hb=>by cases hb)
 ·exact h
theorem sC (ann:Nat->Option LoopGen):(fy ann S).lock=S.lock:=by
 unfold fy;split <;> rfl
theorem rB (ann:Nat->Option LoopGen) {n:Nat} (h:n≠900001):(fy ann S).lh n=S.lh n:=by
 unfold fy;split
 ·simp only [St.entry,cj h,QB]
 ·rfl
theorem uP {ann:Nat->Option LoopGen} (h:∀ d tm env,S.lh d≠some (.frame tm env)):∀ d tm env,(fy ann S).lh d≠some (.frame tm env):=by
 intro d tm env hd;by_cases e:d=900001
 ·subst e;unfold fy at hd;split at hd
  ·simp only [St.entry,eB,QS,pS,reduceCtorEq] at hd
  ·exact h _ _ _ hd
 ·rw [rB ann e] at hd;exact h _ _ _ hd
theorem CJ {ann:Nat->Option LoopGen} {bad:Nat->Bool} (h:Tidy bad S):Tidy bad (fy ann S):=by
 unfold fy;split
 ·exact bW h (fun t T xs e=>by cases e)
 ·exact h
theorem uo {ss:Specs} (hss:ss.okA P M w0):∀ (ann:Nat->Option LoopGen) (k:Nat),Nv P (Kt P ss ann k) M w0
 | _,0=>fun f G h=>by cases h
 | ann,k+1=>by
  intro f G h;simp only [Kt] at h;split at h <;> try cases h
  split at h <;> simp only [pS,reduceCtorEq] at h;rename_i hcall;subst h;refine ⟨hcall,?_⟩;intro p0 S avs vs d K tm w p β L bad hG hB hl hv hT hN h9 hd hdn;have ih:=uo hss (OX ann f) k;unfold OP at hG;split at hG
  ·exact hG.elim
  rename_i fn hfn;split at hG
  ·exact hG.elim
  rename_i c hc;split at hG
  case isFalse=>exact hG.elim
  rename_i hck;simp only [CF] at hck;have hle:=QE hck.1;have hgo:=hG tm;clear hG;generalize (fun n=>ann (100000000 * (f+1)+n))=annf at *;have hcl:=fS (L:=L) hT;have hBc:SatB M p0 w0 S.clean tm w p β:=⟨hB.keep,hB.agr,hB.old,hB.size,hB.lhs,hB.owns,hB.inj,fun s=>da (aL _) _ _ (hB.env s)⟩;refine calls_of_wp hfn hc ?_;have hstart:=FT (ann:=annf) (KH hBc hl hv hle);have hTs:=CJ (ann:=annf) (Hh (tm:=tm) hcl.2 (n:=fn.ntmps) (avs:=avs))
  have hvc:=Cw hss ih (M:=M) (p0:=p0) (w0:=w0) (ds:=[]) c (df annf c) (nF bad) _ _ _ _ { tmps:=vs.toArray++Array.replicate (fn.ntmps - vs.toArray.size) undef,defers:=[] } w
   hgo (GY hck.2) (MR h9) (fun _ h=>h) hTs ⟨p,_,hstart⟩ rfl
  have done:∀ (S':St) (a:Act) (w':World),Il P S.clean d fn.results.toList K S'->Fr (df annf c) (nF bad) (fy annf (dQ tm S.clean fn.ntmps avs)) S'->Tidy (nF bad) S'->Sat M p0 w0 S' a.tmps w'->a.defers=[] ->
    a.defers=[]/\∃ v,(results fn a.tmps).run P w'=.ok v w'/\∃ v' S3,Ending.returned v=.returned v'/\K S3/\Fr L bad S S3/\Tidy bad S3/\Sat M p0 w0 S3 (tm.setIfInBounds d v') w':=by
   intro S' a w' hr hF hT' hS hdf;obtain ⟨p1,β1,hB1⟩:=hS;unfold Il at hr;split at hr
   case h_2=>exact hr.elim
   rename_i avs' has;split at hr
   case h_2=>exact hr.elim
   rename_i tm' env' hfr;obtain ⟨rs,k1,k2,k3⟩:=sK hB1 has
   have hlf:(fy annf (dQ tm S.clean fn.ntmps avs)).lh de=some (.frame tm (fun s=>(S.clean.env s).ren iT xl)):=by
    rw [rB annf (by unfold de; omega)];simp only [dQ,eB,QS]
   have htm:tm'=tm:=by
    obtain ⟨e2,g1,_⟩:=hF.frames _ _ _ hlf;rw [hfr] at g1;injection g1 with g1
    injection g1 with g1 _
   subst htm
   have hout:=Pm hcl.2 hN hd (fun m=>by
    rw [rB annf (by unfold iT; omega)];exact EQ m) hlf (fun m=>by rw [sC]; exact lu m) (fun n hn=>by
    rw [sC] at hn;simp only [dQ] at hn;cases hb:Nat.beq n de
    ·rw [hb] at hn;cases hu:Nat.beq (n % 1000000) 900000
     ·rw [hu] at hn; cases hn
     ·have:=CC hu;exact .inr ⟨n / 1000000,by unfold iT; omega⟩
    ·exact .inl (CC hb)) hF hT' hfr avs'
   exact ⟨hdf,cA rs,k1,cA rs,_,rfl,hr,hcl.1.trans hout.1,hout.2,N1 hB1 hfr hBc.size hdn k2 k3⟩
  refine wp_mono hvc ?_;intro e a w' hq;cases e with
  | normal=>obtain ⟨S',h1,h2,h3,h4,h5⟩:=hq; exact done S' a w' h1 h2 h3 h4 h5
  | ret=>obtain ⟨S',h1,h2,h3,h4,h5⟩:=hq; exact done S' a w' h1 h2 h3 h4 h5
  | exit i=>obtain ⟨S',h1,_⟩:=hq; exact h1.elim
  | _=>exact hq.elim
end
def Ty.flat:Ty->Bool
 | .arr _=>false
 | .ref _=>false
 | .fn _ _=>false
 | .map _ _=>false
 | .pair A B=>A.flat&&B.flat
 | _=>true
def RT.flat:RT->Bool
 | .dat T=>T.flat
 | .own _ T=>T.flat
 | .map _ V=>V.flat
def RT.nameOf:RT->AV->Option Nat
 | .own _ _,.own d=>some d
 | .map _ _,.mp d=>some d
 | _,_=>none
def xh:(Ts:List Ty)->gm Ts->Prop
 | [],_=>True
 | [T],x=>T.wf x
 | T::U::Ts,x=>T.wf x.1/\xh (U::Ts) x.2
def IJ:(Ts:List Ty)->gm Ts->Nat->AV
 | [],_,_=>.any
 | [T],x,s=>if Nat.beq s 0 then T.av x else .any
 | T::U::Ts,x,s=>match s with
  | 0=>T.av x.1
  | s+1=>IJ (U::Ts) x.2 s
def pT (Ts:List Ty) (x:gm Ts) (n:Nat):St:={ env:=IJ Ts x,lh:=fun _=>none,n:=n,lock:=fun _=>false }
def rl:List RT->List AV->List Nat
 | .dat _::Rs,a::avs=>a.owns++rl Rs avs
 | .own _ _::Rs,_::avs=>rl Rs avs
 | .map _ _::Rs,_::avs=>rl Rs avs
 | _,_=>[]
def d9:List RT->List AV->List Nat
 | R::Rs,a::avs=>match R.nameOf a with
  | some d=>d::d9 Rs avs
  | none=>d9 Rs avs
 | _,_=>[]
def RT.eqs (S:St) (R:RT) (y:R.den) (a:AV):Option Prop :=
 match R,y with
 | .dat T,y=>(a.toTy false S.lh T).map fun x=>x=y
 | .own e T,ys=>match a with
  | .nils=>some (([]:List T.den)=ys)
  | .own d=>match S.lh d with
   | some (.row e' T' xs)=>if h:T'=T then (if Nat.beq e' e then some ((h ▸ xs:List T.den)=ys) else none) else none
   | _=>none
  | _=>none
 | .map k V,m=>match a with
  | .mp d=>match S.lh d with
   | some (.mapp k' V' m')=>if h:k'=k/\V'=V then some ((h.2 ▸ m':List (Int×V.den))=m) else none
   | _=>none
  | _=>none
def BJ (S:St):(Rs:List RT)->eD Rs->List AV->Option (List Prop)
 | [],_,avs=>match avs with
  | []=>some []
  | _::_=>none
 | [R],y,avs=>match avs with
  | [a]=>(R.eqs S y a).map fun p=>[p]
  | _=>none
 | R::U::Rs,y,avs=>match avs with
  | []=>none
  | a::avs=>match R.eqs S y.1 a,BJ S (U::Rs) y.2 avs with
   | some p,some ps=>some (p::ps)
   | _,_=>none
def HL (P:Program) (rvs:List ResultVar) (Rs:List RT) (y:eD Rs) (S:St):Prop :=
 match jZ P S rvs with
 | none=>False
 | some avs=>if lV (d9 Rs avs) then match BJ (S.freeze (rl Rs avs)) Rs y avs with
   | none=>False
   | some ps=>M8 ps True
  else False
def Py (P:Program) (ss:Specs) (ann:Nat->Option LoopGen) (fn:Func) (s:Spec):Prop :=
 match fn.body with
 | none=>False
 | some c=>if Nat.ble s.Ts.length fn.ntmps&&(s.al||s.Rs.all RT.flat) then
   ∀ x,xh s.Ts x->s.pre x->vc P ss (Kt P ss ann 4) ann c (fy ann (pT s.Ts x fn.ntmps)) (HL P fn.results.toList s.Rs (s.F x)) (fun _ _=>False) (HL P fn.results.toList s.Rs (s.F x))
  else False
section
variable {P:Program} {p p0:PH} {w w0:World} {M:Nat->Prop} {S:St} {tm:Array Value} {β:Nat->Value}
theorem yo {T:Ty} {x:T.den} {v:Value} (h:T.vholds p x v):T.wf x:=Ty.holds_wf T x _ (pM h)
theorem k8:∀ (Ts:List Ty) (x:gm Ts) (vs:List Value),di p Ts x vs->xh Ts x
 | [],_,_,_=>trivial
 | [_],_,_,⟨_,_,h⟩=>yo h
 | _::U::Ts,x,_,⟨_,rest,_,h1,h2⟩=>⟨yo h1,k8 (U::Ts) x.2 rest h2⟩
theorem gD:∀ (Ts:List Ty) (x:gm Ts) (vs:List Value),di p Ts x vs->vs.length=Ts.length
 | [],_,vs,h=>by have:vs=[]:=h; rw [this]; rfl
 | [T],x,vs,⟨v,e,h⟩=>by rw [e]; rfl
 | T::U::Ts,x,vs,⟨v,rest,e,h1,h2⟩=>by rw [e,HN,gD (U::Ts) x.2 rest h2]; rfl
theorem zM:∀ (Ts:List Ty) (x:gm Ts) (vs:List Value),di p Ts x vs->∀ s,(IJ Ts x s).val p β tm (vs.getD s undef)
 | [],_,_,_,_=>trivial
 | [T],x,vs,⟨v,e,h⟩,s=>by
  subst e;simp only [IJ];split
  ·rename_i hs;rw [CC hs];exact AV.val_of_val1 (dI (tm:=tm) h)
  ·trivial
 | T::U::Ts,x,vs,⟨v,rest,e,h1,h2⟩,s=>by
  subst e
  match s with
  | 0=>exact AV.val_of_val1 (dI (tm:=tm) h1)
  | s+1=>exact zM (U::Ts) x.2 rest h2 s
theorem Ja {Ts:List Ty} {x:gm Ts} {vs:List Value} (hA:Agrees p w) (h:di p Ts x vs) {n:Nat} (hn:Ts.length<=n) (β:Nat->Value) :
  SatB (fun _=>False) p w (pT Ts x n) (vs.toArray++Array.replicate (n - vs.toArray.size) undef) w p β:=by
 have hl:=gD Ts x vs h;refine ⟨⟨rfl,rfl,rfl,QI _,fun _ _ _=>rfl⟩,hA,fun b cs hb=>.inr (.inr hb),?_,fun d e hd=>(by cases hd),fun d e b hd=>(by cases hd),fun d d' e e' b hd=>(by cases hd),fun s=>?_⟩
 ·simp [pT,hl]; omega
 ·have:=zM (tm:=(vs.toArray++Array.replicate (n - vs.toArray.size) undef)) (β:=β) Ts x vs h s
  have e:(vs.toArray++Array.replicate (n - vs.toArray.size) undef).getD s undef=vs.getD s undef:=by
   simp only [Array.getD_eq_getD_getElem?,Array.getElem?_append,RE,List.getElem?_toArray,List.getD];split
   ·rfl
   ·rename_i hs;have h1:vs[s]?=none:=List.getElem?_eq_none (by omega);rw [h1];simp only [Array.getElem?_replicate];split <;> rfl
  rw [e];exact this
theorem lS:∀ (T:Ty) (x:T.den) (cs:List Value) {p q:PH},T.flat=true->T.holds p x cs->T.holds q x cs
 | .int _,_,_,_,_,_,h=>h
 | .bool,_,_,_,_,_,h=>h
 | .str,_,_,_,_,_,h=>h
 | .arr _,_,_,_,_,h,_=>by cases h
 | .ref _,_,_,_,_,h,_=>by cases h
 | .fn _ _,_,_,_,_,h,_=>by cases h
 | .map _ _,_,_,_,_,h,_=>by cases h
 | .nil,_,_,_,_,_,h=>h
 | .pair A B,_,_,_,_,hf,⟨c1,c2,e,h1,h2⟩=>by
  simp only [Ty.flat,CF] at hf;exact ⟨c1,c2,e,lS A _ _ hf.1 h1,lS B _ _ hf.2 h2⟩
theorem yp {T:Ty} {x:T.den} {v:Value} {q:PH} (h:T.vholds p x v) (k:∀ cs,T.holds p x cs->T.holds q x cs):T.vholds q x v:=by
 cases T with
 | pair A B=>obtain ⟨cs,e,hc⟩:=h; exact ⟨cs,e,k _ hc⟩
 | int kd=>exact k _ h
 | bool=>exact k _ h
 | str=>exact k _ h
 | arr T=>exact k _ h
 | nil=>exact k _ h
 | ref T=>exact k _ h
 | fn A B=>exact k _ h
 | map kd V=>exact k _ h
theorem zG (hS:SatB (fun _=>False) p0 w0 S tm w p β) {R:RT} {y:R.den} {a:AV} {v:Value} {q:Prop} (h:R.eqs S y a=some q) (hq:q) (ha:a.val p β tm v) {r f:PH} (hr:R.flat=true\/PH.le p r) (hf:∀ b,p b=none->f b=none) :
  R.holds w w0.heap.size r f y v/\∀ b,R.blk v=some b->∃ d,R.nameOf a=some d/\β d=v/\∃ e,S.lh d=some e/\e.live=true:=by
 cases R with
 | dat T =>
  obtain ⟨x,hx,h0⟩:=Dm.1 h
  have hxy:x=y:=by
   have:(x=y)=q:=h0;rw [this]; exact hq
  subst hxy;have h1:=cR hS (rows:=false) hx ha;simp only [Qz,QW] at h1;refine ⟨yp h1 (fun cs hc=>?_),fun b hb=>by cases hb⟩;rcases hr with hr | hr
  ·exact lS T x cs hr hc
  ·exact Ty.holds_mono hr T x cs hc
 | own e T =>
  have hrow:∀ {xs:List T.den} {l:List Value},aN (T.holds p) xs l->aN (T.holds r) xs l:=fun hh=>c8 (fun x cs hc=>by
   rcases hr with hr | hr
   ·exact lS T x cs hr hc
   ·exact Ty.holds_mono hr T x cs hc) _ _ hh
  unfold RT.eqs at h;simp only at h;split at h
  ·injection h with h
   have hxy:([]:List T.den)=y:=by rw [h]; exact hq
   subst hxy;have hv:v=.slice none 0 0:=ha;subst hv;exact ⟨⟨⟨[],SG w _ e T.size,rfl,by simp⟩,fun b hb=>by cases hb⟩,fun b hb=>by cases hb⟩
  ·rename_i d;split at h <;> try cases h
   rename_i e' T' xs hd;split at h <;> try cases h
   rename_i hT;subst hT;split at h <;> simp only [pS,reduceCtorEq] at h;rename_i he;have he:=CC he;subst he
   have hxy:xs=y:=by
    have:(xs=y)=q:=h;rw [this]; exact hq
   subst hxy;have hv:v=β d:=ha;subst hv;obtain ⟨l,g1,g2,g3⟩:=hS.lhs d _ hd;have hown:=fun b hb=>hS.owns d _ b hd rfl hb
   refine ⟨⟨⟨l,⟨g1.1,?_⟩,hrow g2,g3⟩,fun b hb=>hf b (hown b hb).2⟩,fun b hb=>⟨d,rfl,rfl,_,hd,rfl⟩⟩;rcases g1.2 with h1 | ⟨g,cap,cur,e1,_,e3⟩
   ·exact .inl h1
   ·refine .inr ⟨g,cap,cur,e1,?_,e3⟩;rcases (hown g (by rw [e1]; rfl)).1 with h2 | h2
    ·exact h2.elim
    ·exact h2
  ·cases h
 | map k V =>
  unfold RT.eqs at h;simp only at h;split at h <;> try cases h
  rename_i d;split at h <;> try cases h
  rename_i k' V' m hd;split at h <;> simp only [pS,reduceCtorEq] at h;rename_i hT;obtain ⟨rfl,rfl⟩:=hT
  have hxy:m=y:=by
   have:(m=y)=q:=h;rw [this]; exact hq
  subst hxy;have hv:v=β d:=ha;subst hv;obtain ⟨g,es,clock,g1,g2,g3,g4⟩:=hS.lhs d _ hd;have hown:=fun b hb=>hS.owns d _ b hd rfl hb
  refine ⟨⟨⟨g,es,clock,g1,?_,g2,g3,ci (fun x _=>dJ (fun cs hc=>?_)) _ _ g4⟩,fun b hb=>hf b (hown b hb).2⟩,fun b hb=>⟨d,rfl,rfl,_,hd,rfl⟩⟩
  ·rcases (hown g (by rw [g1]; rfl)).1 with h2 | h2
   ·exact h2.elim
   ·exact h2
  ·rcases hr with hr | hr
   ·exact lS V' x cs hr hc
   ·exact Ty.holds_mono hr V' x cs hc
theorem rf (hS:SatB (fun _=>False) p0 w0 S tm w p β) {r f:PH} (hf:∀ b,p b=none->f b=none):∀ (Rs:List RT) (y:eD Rs) (avs:List AV) (ps:List Prop) (vs:List Value) (bs:List Nat),BJ S Rs y avs=some ps->(∀ q∈ps,q) ->
  (Rs.all RT.flat=true\/PH.le p r)->vs.length=avs.length->(∀ (i:Nat) a v,avs[i]?=some a->vs[i]?=some v->a.val p β tm v)->(d9 Rs avs).Nodup ->
  (∀ d∈d9 Rs avs,∀ b e,b8 (β d)=some b->S.lh d=some e->e.live=true->b ∉ bs)->jw w w0.heap.size r f Rs y vs bs
 | [],y,avs,ps,vs,bs,h,_,_,hl,_,_,_=>by
  cases avs with
  | nil=>exact QF hl
  | cons a avs=>cases h
 | [R],y,avs,ps,vs,bs,h,hps,hfl,hl,hv,hn,hb=>by
  match avs,h,hl,hv,hn,hb with
  | [a],h,hl,hv,hn,hb =>
   match vs,hl,hv with
   | [v],_,hv =>
    obtain ⟨q,hq,h0⟩:=Dm.1 h;subst h0;obtain ⟨h1,h2⟩:=zG (r:=r) (f:=f) hS hq (hps q (by simp)) (hv 0 a v rfl rfl) (hfl.imp (fun h=>by simpa using h) id) hf;refine ⟨v,rfl,h1,fun b hbk=>?_⟩;obtain ⟨d,hnm,rfl,e,hd,hlv⟩:=h2 b hbk;exact hb d (by simp [d9,hnm]) b e (by cases R <;> first | exact hbk | cases hbk) hd hlv
 | R::U::Rs,y,avs,ps,vs,bs,h,hps,hfl,hl,hv,hn,hb=>by
  match avs,h,hl,hv,hn,hb with
  | a::avs,h,hl,hv,hn,hb =>
   match vs,hl,hv with
   | v::vs,hl,hv =>
    unfold BJ at h;simp only at h;split at h <;> simp only [pS,reduceCtorEq] at h;rename_i q qs hq hqs;subst h;obtain ⟨h1,h2⟩:=zG (r:=r) (f:=f) hS hq (hps q (by simp)) (hv 0 a v rfl rfl) (hfl.imp (fun h=>by simp only [Rt,CF] at h; exact h.1) id) hf;have hfl':(U::Rs).all RT.flat=true\/PH.le p r:=hfl.imp (fun h=>by simp only [Rt,CF] at h |-; exact h.2) id;have hv':∀ (i:Nat) a v,avs[i]?=some a->vs[i]?=some v->a.val p β tm v:=fun i a v ha hb=>hv (i+1) a v (by simpa using ha) (by simpa using hb)
    have hnm:∀ d,R.nameOf a=some d->d9 (R::U::Rs) (a::avs)=d::d9 (U::Rs) avs:=fun d e=>by simp only [d9,e]
    have hsub:∀ d∈d9 (U::Rs) avs,d∈d9 (R::U::Rs) (a::avs):=by
     intro d hd;unfold d9;split
     ·exact QK _ hd
     ·exact hd
    have hn':(d9 (U::Rs) avs).Nodup:=by
     unfold d9 at hn;split at hn
     ·exact (SN.1 hn).2
     ·exact hn
    have hbo:∀ b,R.blk v=some b->b8 v=some b:=fun b hb=>by cases R <;> first | exact hb | cases hb
    refine ⟨v,vs,rfl,h1,fun b hbk=>?_,?_⟩
    ·obtain ⟨d,ha,hβ,e,hd,hlv⟩:=h2 b hbk;exact hb d (by rw [hnm d ha]; simp) b e (by rw [hβ]; exact hbo b hbk) hd hlv
    ·refine rf hS hf (U::Rs) y.2 avs qs vs _ hqs (fun q hq=>hps q (by simp [hq])) hfl' (by simpa using hl) hv' hn' (fun d' hd' b' e1 hb' hlh hlv=>?_);cases hbv:R.blk v with
     | none=>exact hb d' (hsub d' hd') b' e1 hb' hlh hlv
     | some b0 =>
      simp only [Qs,not_or];refine ⟨fun e=>?_,hb d' (hsub d' hd') b' e1 hb' hlh hlv⟩;subst e;obtain ⟨d,ha,hβ,e,hd,hlv2⟩:=h2 b' hbv;have:=hS.inj d' d e1 e b' hlh hlv hd hlv2 hb' (by rw [hβ]; exact hbo _ hbv);subst this;rw [hnm d' ha] at hn;exact (SN.1 hn).1 hd'
theorem MO {ss:Specs} (hss:ss.ok P) {ann:Nat->Option LoopGen} {f:FuncId} {fn:Func} {s:Spec} (hfn:P.funcs[f]?=some fn) (h:Py P ss ann fn s):s.ok P f:=by
 unfold Py at h;split at h
 ·exact h.elim
 rename_i c hc;split at h
 case isFalse=>exact h.elim
 rename_i hck;simp only [CF] at hck;have hn:=QE hck.1;intro p w vs x hLd hA hargs hpre;have hss:ss.okA P (fun _=>False) w:=⟨hss,hLd,fun _ _ h=>h⟩;refine calls_of_wp hfn hc ?_;have hstart0:=Ja (β:=fun _=>undef) hA hargs hn
 have hstart:SatB (fun _=>False) p w (fy ann (pT s.Ts x fn.ntmps)) (vs.toArray++Array.replicate (fn.ntmps - vs.toArray.size) undef) w p (fun _=>undef):=by
  unfold fy;split
  ·exact hstart0.entry trivial (fun b hb=>by cases hb) (fun _ _ _ _ hb=>by cases hb)
  ·exact hstart0
 have hlock:(fy ann (pT s.Ts x fn.ntmps)).lock=fun _=>false:=by
  unfold fy;split <;> rfl
 have hvc:=Cw hss (uo hss ann 4) (M:=fun _=>False) (p0:=p) (w0:=w) (ds:=[]) c (df ann c) (fun _=>true) _ _ _ _ { tmps:=vs.toArray++Array.replicate (fn.ntmps - vs.toArray.size) undef,defers:=[] } w
  (h x (k8 _ _ _ hargs) hpre) (fun _ _ _=>rfl) (fun _ _=>rfl) (fun _ h=>h) ⟨fun d hd=>(by rw [hlock] at hd; cases hd),fun _ _ _ _ _ _=>rfl,fun d tm env hd=>absurd hd (uP (fun _ _ _ h=>by cases h) d tm env)⟩ ⟨p,_,hstart⟩ rfl
 have done:∀ (S':St) (a:Act) (w':World),HL P fn.results.toList s.Rs (s.F x) S'->Sat (fun _=>False) p w S' a.tmps w'->a.defers=[] ->
   a.defers=[]/\∃ v,(results fn a.tmps).run P w'=.ok v w'/\∃ (rs:List Value) (q:PH),Ending.returned v=.returned (cA rs)/\Keep (fun _=>False) w w'/\(∀ b cs,q b=some cs->w.heap.size<=b)/\Agrees q w' /\
    jw w' w.heap.size (if s.al then p.union q else q) q s.Rs (s.F x) rs []:=by
  intro S' a w' hr hS hd;obtain ⟨p1,β,hB⟩:=hS;unfold HL at hr;split at hr
  ·exact hr.elim
  rename_i avs has;split at hr
  case isFalse=>exact hr.elim
  rename_i hdist;split at hr
  ·exact hr.elim
  rename_i ps hps;obtain ⟨hpsall,_⟩:=lW _ _ hr;obtain ⟨rs,k1,k2,k3⟩:=sK hB has;obtain ⟨p2,hle,hB2⟩:=bZ (rl s.Rs avs) S' p1 hB;refine ⟨hd,cA rs,k1,rs,fun b=>if w.heap.size<=b then p2 b else none,rfl,hB.keep,fun b cs hb=>?_,fun b cs hb=>?_,?_⟩
  ·by_cases e:w.heap.size<=b
   ·exact e
   ·simp only [e,QW] at hb; cases hb
  ·by_cases e:w.heap.size<=b
   ·simp only [e,if_true] at hb; exact hB2.agr b cs hb
   ·simp only [e,QW] at hb; cases hb
  ·refine rf hB2 (fun b hb=>by by_cases e:w.heap.size<=b <;> simp [e,hb]) s.Rs (s.F x) avs ps rs [] hps hpsall ?_ k2 (fun i a' v ha hv=>AV.val_mono hle _ _ (k3 i a' v ha hv)) (ix hdist) (fun _ _ b _ _ _ _=>by simp);cases hal:s.al
   ·left;have:=hck.2;rw [hal] at this;simpa using this
   ·right;simp only [if_true];intro b cs hb;unfold PH.union;rcases hB2.old b cs hb with h1 | h1 | h1
    ·cases hpb:p b with
     | none=>simp [h1,hb]
     | some c' =>
      have:=hA.lt hpb;omega
    ·exact h1.elim
    ·simp [h1]
 refine wp_mono hvc ?_;intro e a w' hq;cases e with
 | normal=>obtain ⟨S',h1,_,_,h4,h5⟩:=hq; exact done S' a w' h1 h4 h5
 | ret=>obtain ⟨S',h1,_,_,h4,h5⟩:=hq; exact done S' a w' h1 h4 h5
 | exit i=>obtain ⟨S',h1,_⟩:=hq; exact h1.elim
 | _=>exact hq.elim
end
def iK:(Ts:List Ty)->gm Ts->List AV
 | [],_=>[]
 | [T],x=>[(T.av x).opn []]
 | T::U::Ts,x=>(T.av x.1).opn []::iK (U::Ts) x.2
def jX (a:AV) (e:LE):St:={ env:=fun s=>bif Nat.beq s 0 then a else .any,lh:=fun d=>bif Nat.beq d 0 then some e else none,n:=2,lock:=fun _=>false }
def AV.parts:AV->Option (List AV)
 | .tnil=>some []
 | .tup a b=>match b.parts with
  | some avs=>some (a::avs)
  | none=>none
 | _=>none
def qe (Rs:List RT) (a:AV):Option (List AV):=match Rs with
 | [_]=>some [a]
 | _=>match a.parts with
  | some [_]=>none
  | r=>r
def M7 (lh:Nat->Option LE):(R:RT)->AV->Option R.den
 | .dat T,a=>a.toTy false lh T
 | _,_=>none
def BM (lh:Nat->Option LE):(Rs:List RT)->List AV->Option (eD Rs)
 | [],avs=>match avs with
  | []=>some ()
  | _=>none
 | [R],avs=>match avs with
  | [a]=>M7 lh R a
  | _=>none
 | R::U::Rs,avs=>match avs with
  | a::avs=>match M7 lh R a,BM lh (U::Rs) avs with
   | some x,some y=>some (x,y)
   | _,_=>none
  | _=>none
def Na (r:BoxFn) (z:eD r.Rs×r.T.den) (S:St):Prop :=
 match qe r.Rs (S.env 1) with
 | none=>False
 | some avs=>match (S.freeze (dn S 0++avs.flatMap AV.owns)).lh 0 with
  | some (.cells c)=>match BM (S.freeze (dn S 0++avs.flatMap AV.owns)).lh r.Rs avs,c.toTy false (S.freeze (dn S 0++avs.flatMap AV.owns)).lh r.T with
   | some u,some v=>u=z.1/\v=z.2
   | _,_=>False
  | _=>False
def Bs (P:Program) (ss:Specs) (ann:Nat->Option LoopGen) (f:FuncId) (r:BoxFn):Prop :=
 match Kt P ss ann 5 f with
 | none=>False
 | some G=>∀ x y,r.T.wf x->xh r.Ts y->r.pre x y->G (.loc 0 0::iK r.Ts y) (jX (.loc 0 0) (.cells (r.T.av x))) 1 (Na r (r.F x y))
def LO (r:RowFn) (zs:List r.T.den) (S:St):Prop :=
 match S.env 1 with
 | .own d=>match S.lh d with
  | some (.row e T xs)=>if h:T=r.T then (if Nat.beq e r.e then (h ▸ xs:List r.T.den)=zs else False) else False
  | _=>False
 | _=>False
def Br (P:Program) (ss:Specs) (ann:Nat->Option LoopGen) (f:FuncId) (r:RowFn):Prop :=
 match Kt P ss ann 5 f with
 | none=>False
 | some G=>if r.T.flat&&r.out&&!r.tail then ∀ (xs ys:List r.T.den) y,(∀ x∈xs,r.T.wf x)->xs.length * r.T.bytes<=aK->xh r.Ts y->r.pre xs ys y->G (.own 0::iK r.Ts y) (jX (.own 0) (.row r.e r.T xs)) 1 (LO r (r.F xs ys y)) else False
section
variable {P:Program} {p p0:PH} {w w0:World} {M:Nat->Prop} {tm:Array Value} {β:Nat->Value}
theorem lx:∀ (Ts:List Ty) (x:gm Ts),(iK Ts x).length=Ts.length
 | [],_=>rfl
 | [_],_=>rfl
 | _::U::Ts,x=>by simp only [iK,HN,lx (U::Ts) x.2]
theorem pJ:∀ (Ts:List Ty) (x:gm Ts) (vs:List Value),di p Ts x vs->∀ (i:Nat) a v,(iK Ts x)[i]?=some a->vs[i]?=some v->a.val p β tm v/\a.noGd=true
 | [],_,_,_,i,a,v,h,_=>by simp [iK] at h
 | [T],x,vs,⟨v0,e,h⟩,i,a,v,ha,hv=>by
  subst e;cases i with
  | zero =>
   simp only [iK,List.getElem?_cons_zero,pS] at ha hv;subst ha hv;exact ⟨da (aL _) _ _ (AV.val_of_val1 (dI (tm:=tm) h)),co _ _⟩
  | succ i=>simp [iK] at ha
 | T::U::Ts,x,vs,⟨v0,rest,e,h1,h2⟩,i,a,v,ha,hv=>by
  subst e;cases i with
  | zero =>
   simp only [iK,List.getElem?_cons_zero,pS] at ha hv;subst ha hv;exact ⟨da (aL _) _ _ (AV.val_of_val1 (dI (tm:=tm) h1)),co _ _⟩
  | succ i=>exact pJ (U::Ts) x.2 rest h2 i a v (by simpa [iK] using ha) (by simpa using hv)
theorem zw {T:Ty}:∀ (xs:List T.den) (l:List Value),aN (T.holds p) xs l->∀ x∈xs,T.wf x
 | [],_,_,x,hx=>by cases hx
 | y::ys,l,⟨c1,c2,_,h1,h2⟩,x,hx=>by
  rcases Qs.1 hx with rfl | hx
  ·exact Ty.holds_wf T _ _ h1
  ·exact zw ys c2 h2 x hx
theorem DV:∀ (a:AV) (avs:List AV) (vs:List Value),a.parts=some avs->a.vals p β vs->avs.length=vs.length/\∀ (i:Nat) a v,avs[i]?=some a->vs[i]?=some v->a.val p β tm v:=by
 intro a
 induction a with
 | tnil =>
  intro avs vs h hv;simp only [AV.parts,pS] at h;subst h;cases vs with
  | nil=>exact ⟨rfl,fun i a v h=>by simp at h⟩
  | cons v vs=>exact absurd hv (by simp [AV.vals])
 | tup a b _ ih =>
  intro avs vs h hv;simp only [AV.parts] at h;split at h <;> simp only [pS,reduceCtorEq] at h;rename_i bs hb;subst h;cases vs with
  | nil=>exact absurd hv (by simp [AV.vals])
  | cons v vs =>
   obtain ⟨h1,h2⟩:a.val1 p β v/\b.vals p β vs:=by simpa only [AV.vals] using hv
   obtain ⟨k1,k2⟩:=ih bs vs hb h2;refine ⟨by simp [k1],fun i a' v' ha' hv'=>?_⟩;cases i with
   | zero =>
    simp only [List.getElem?_cons_zero,pS] at ha' hv';subst ha' hv';exact AV.val_of_val1 h1
   | succ i=>exact k2 i a' v' (by simpa using ha') (by simpa using hv')
 | _=>intro avs vs h; simp only [AV.parts,reduceCtorEq] at h
theorem vl {Rs:List RT} {a:AV} {avs:List AV} {v:Value} (h:qe Rs a=some avs) (hv:a.val p β tm v) :
  ∃ rs,cA rs=v/\avs.length=rs.length/\∀ (i:Nat) a v,avs[i]?=some a->rs[i]?=some v->a.val p β tm v:=by
 have hone:∀ x,qe [x] a=some [a]:=fun _=>rfl
 have many:∀ {r:Option (List AV)},(match a.parts with | some [_]=>none | r=>r)=some avs->a.parts=some avs/\avs.length≠1:=by
  intro _ h;split at h
  ·cases h
  ·rename_i hne;refine ⟨h,fun e=>?_⟩
   match avs,e with
   | [x],_=>exact hne x h
 have rest:a.parts=some avs->avs.length≠1->∃ rs,cA rs=v/\avs.length=rs.length/\∀ (i:Nat) a v,avs[i]?=some a->rs[i]?=some v->a.val p β tm v:=by
  intro h hn
  have hvs:∃ vs:List Value,v=.tuple vs.toArray/\a.vals p β vs:=by
   cases a <;> simp only [AV.parts,reduceCtorEq] at h
   ·exact hv
   ·exact ⟨[],hv,trivial⟩
  obtain ⟨vs,rfl,h1⟩:=hvs;obtain ⟨k1,k2⟩:=DV (tm:=tm) a avs vs h h1;refine ⟨vs,?_,k1,k2⟩
  match vs,k1 with
  | [],_=>rfl
  | [x],k1=>exact absurd k1 hn
  | x::y::zs,_=>rfl
 match Rs,h with
 | [],h=>obtain ⟨h1,h2⟩:=many (r:=none) h; exact rest h1 h2
 | [_],h =>
  simp only [qe,pS] at h;subst h;refine ⟨[v],rfl,rfl,fun i a' v' ha hv'=>?_⟩;cases i with
  | zero =>
   simp only [List.getElem?_cons_zero,pS] at ha hv';subst ha hv';exact hv
  | succ i=>simp at ha
 | _::_::_,h=>obtain ⟨h1,h2⟩:=many (r:=none) h; exact rest h1 h2
theorem KJ {S:St} (hS:SatB M p0 w0 S tm w p β) {B:Nat} {r q:PH} (hr:PH.le p r):∀ (Rs:List RT) (u:eD Rs) (avs:List AV) (vs:List Value) (bs:List Nat),BM S.lh Rs avs=some u->avs.length=vs.length ->
  (∀ (i:Nat) a v,avs[i]?=some a->vs[i]?=some v->a.val p β tm v)->jw w B r q Rs u vs bs:=by
 have one:∀ (R:RT) (x:R.den) (a:AV) (v:Value),M7 S.lh R a=some x->a.val p β tm v->R.holds w B r q x v/\R.blk v=none:=by
  intro R x a v h hv;cases R with
  | dat T =>
   have h1:=cR hS (rows:=false) h hv;simp only [Qz,QW] at h1;exact ⟨yp h1 (fun cs hc=>Ty.holds_mono hr T x cs hc),rfl⟩
  | own e T=>cases h
  | map k V=>cases h
 intro Rs
 induction Rs with
 | nil =>
  intro u avs vs bs h hl _;cases avs with
  | nil=>exact QF hl.symm
  | cons a avs=>cases h
 | cons R Rs ih =>
  intro u avs vs bs h hl hv;cases Rs with
  | nil =>
   match avs,h,hl,hv with
   | [a],h,hl,hv =>
    match vs,hl,hv with
    | [v],_,hv =>
     obtain ⟨h1,h2⟩:=one R u a v h (hv 0 a v rfl rfl);exact ⟨v,rfl,h1,(fun b hb=>by rw [h2] at hb; cases hb)⟩
  | cons U Rs =>
   match avs,h,hl,hv with
   | a::avs,h,hl,hv =>
    match vs,hl,hv with
    | v::vs,hl,hv =>
     unfold BM at h;simp only at h;split at h
     case h_2=>cases h
     rename_i x y hx hy;injection h with h
     subst h;obtain ⟨h1,h2⟩:=one R x a v hx (hv 0 a v rfl rfl);refine ⟨v,vs,rfl,h1,(fun b hb=>by rw [h2] at hb; cases hb),?_⟩;exact ih y avs vs _ hy (by simpa using hl) (fun i a' v' ha' hv'=>hv (i+1) a' v' (by simpa using ha') (by simpa using hv'))
theorem KO {ss:Specs} (hss:ss.ok P) {ann:Nat->Option LoopGen} {f:FuncId} {r:BoxFn} (h:Bs P ss ann f r):r.ok P f:=by
 unfold Bs at h;split at h
 ·exact h.elim
 rename_i G hG;intro p w b cs t x vs y hLd htab hA hb hx hpb hargs hpre;have hss:ss.okA P (fun i=>i=b) w:=⟨hss,hLd,fun k hk e=>htab k hk e⟩;obtain ⟨hcal,hin⟩:=uo hss ann 5 f G hG
 have hS:SatB (fun i=>i=b) p w (jX (.loc 0 0) (.cells (r.T.av x))) #[.pointer (some ⟨b,0,none⟩),undef] w p (fun _=>.pointer (some ⟨b,0,none⟩)):=by
  refine ⟨⟨rfl,rfl,rfl,QI _,fun _ _ _=>rfl⟩,hA,fun b cs hb=>.inr (.inr hb),rfl,fun d e hd=>?_,fun d e b' hd _ hb'=>?_,fun d d' e e' b' hd _ hd' _ _ _=>?_,fun s=>?_⟩
  ·simp only [jX] at hd;cases hd0:Nat.beq d 0
   ·rw [hd0] at hd; cases hd
   ·rw [hd0] at hd;simp only [QS,pS] at hd;subst hd;exact ⟨b,cs,t,rfl,hb,Ty.av_cells _ _ _ hx⟩
  ·simp only [b8,pS] at hb';subst hb';exact ⟨.inl rfl,hpb⟩
  ·simp only [jX] at hd hd';cases hd0:Nat.beq d 0
   ·rw [hd0] at hd; cases hd
   ·cases hZ:Nat.beq d' 0
    ·rw [hZ] at hd'; cases hd'
    ·rw [CC hd0,CC hZ]
  ·cases s with
   | zero=>exact ⟨b,rfl,rfl⟩
   | succ s=>trivial
 have hc:=hin p _ (.loc 0 0::iK r.Ts y) (.pointer (some ⟨b,0,none⟩)::vs) 1 _ _ w p _ [1] (fun n=>!Nat.beq n 0) (h x y (Ty.holds_wf r.T x _ hx) (k8 _ _ _ hargs) hpre) hS
  (by rw [HN,HN,lx,gD _ _ _ hargs])
  (fun i a v ha hv=>by
   cases i with
   | zero =>
    simp only [List.getElem?_cons_zero,pS] at ha hv;subst ha hv;exact ⟨⟨b,rfl,rfl⟩,rfl⟩
   | succ i=>exact pJ r.Ts y vs hargs i a v (by simpa using ha) (by simpa using hv))
  ⟨(fun d hd=>by cases hd),(fun d e T xs hd _=>by
   simp only [jX] at hd;cases hd0:Nat.beq d 0
   ·rfl
   ·rw [hd0] at hd; cases hd),(fun d tm env hd=>by
   simp only [jX] at hd;cases hd0:Nat.beq d 0
   ·rw [hd0] at hd; cases hd
   ·rw [hd0] at hd; cases hd)⟩
  (fun d hd k=>by
   have:d=1:=by simpa using hd
   subst this;simp only [bB,QN];exact cj (by omega))
  (fun n hn=>by
   cases h0:Nat.beq n 0
   ·rfl
   ·rw [CC h0] at hn;exact absurd hn (by decide))
  rfl (show 1<2 by decide)
 refine hc.mono ?_;rintro e w' ⟨v,S3,rfl,hK,hF,_,p1,β1,hB⟩;unfold Na at hK;split at hK
 ·exact hK.elim
 rename_i avs havs;have henv:S3.env 0=.loc 0 0:=hF.env 0 rfl ⟨rfl,rfl⟩;obtain ⟨p2,hle,hB2⟩:=bZ (dn S3 0++avs.flatMap AV.owns) S3 p1 hB;have hen:(S3.freeze (dn S3 0++avs.flatMap AV.owns)).env=S3.env:=(cQ _ _).1;generalize S3.freeze (dn S3 0++avs.flatMap AV.owns)=S4 at *;split at hK
 case h_2=>exact hK.elim
 rename_i c hc0;split at hK
 case h_2=>exact hK.elim
 rename_i u z hu hz;obtain ⟨hK1,hK2⟩:=hK;have h0:=hB2.env 0;rw [hen,henv] at h0;obtain ⟨b1,e1,e2⟩:=h0
 have e3:b1=b:=by
  have:(Value.pointer (some ⟨b,0,none⟩))=.pointer (some ⟨b1,0,none⟩):=e2;injection this with this
  injection this with this
  injection this with this
  exact this.symm
 subst e3;obtain ⟨b2,cs',t',g1,g2,g3⟩:=hB2.lhs 0 _ hc0;rw [e1] at g1;injection g1 with g1
 injection g1 with g1
 injection g1 with g1
 subst g1;have hp2:p2 b1=none:=(hB2.owns 0 _ b1 hc0 rfl (by rw [e1]; rfl)).2
 have hle2:PH.le p2 (p.union (fun b=>if w.heap.size<=b then p2 b else none)):=by
  intro k cs hk;unfold PH.union;rcases hB2.old k cs hk with h1 | h1 | h1
  ·have hpk:p k=none:=by
    cases hpk:p k with
    | none=>rfl
    | some c' =>
     have:=hA.lt hpk;omega
   rw [hpk];simp only [h1,if_true];exact hk
  ·have h1:k=b1:=h1;rw [h1,hp2] at hk;cases hk
  ·rw [h1]
 have hcz:=bc hB2 (rows:=false) r.T c z cs'.toList hz g3;simp only [Qz,QW] at hcz;rw [hK2] at hcz;have h1:=hB2.env 1;rw [hen] at h1;obtain ⟨rs,q1,q2,q3⟩:=vl havs h1;have hk:=hB2.keep;refine ⟨rs,fun b=>if w.heap.size<=b then p2 b else none,cs',t',by rw [q1]; rfl,⟨hk.os,hk.tape,hk.output,hk.size,fun k hk1 hk2=>hk.block k hk1 (fun e=>hk2 (congrArg some e))⟩,fun b cs hb=>?_,fun b cs hb=>?_,g2,Ty.holds_mono hle2 _ _ _ hcz,?_⟩
 ·by_cases e:w.heap.size<=b
  ·exact e
  ·simp only [e,QW] at hb; cases hb
 ·by_cases e:w.heap.size<=b
  ·simp only [e,if_true] at hb; exact hB2.agr b cs hb
  ·simp only [e,QW] at hb; cases hb
 ·rw [<- hK1];exact KJ hB2 hle2 r.Rs u avs rs [] hu q2 q3
theorem JI {ss:Specs} (hss:ss.ok P) {ann:Nat->Option LoopGen} {f:FuncId} {r:RowFn} (h:Br P ss ann f r):r.ok P f:=by
 unfold Br at h;split at h
 ·exact h.elim
 rename_i G hG;split at h
 case isFalse=>exact h.elim
 rename_i hck;simp only [CF,QN] at hck;intro p w v0 xs l v2 ys l2 vs y hLd htab hA hown hl hbig hpb hown2 hl2 _ hargs hpre;have hnt:r.tail=false:=hck.2;have hout:r.out=true:=hck.1.2;have hss:ss.okA P (fun i=>v0.ownBlock=some i) w:=⟨hss,hLd,fun k hk e=>htab _ e k hk rfl⟩;obtain ⟨hcal,hin⟩:=uo hss ann 5 f G hG;have hvb:=cP hown
 have hS:SatB (fun i=>v0.ownBlock=some i) p w (jX (.own 0) (.row r.e r.T xs)) #[v0,undef] w p (fun _=>v0):=by
  refine ⟨⟨rfl,rfl,rfl,QI _,fun _ _ _=>rfl⟩,hA,fun b cs hb=>.inr (.inr hb),rfl,fun d e hd=>?_,fun d e b' hd _ hb'=>?_,fun d d' e e' b' hd _ hd' _ _ _=>?_,fun s=>?_⟩
  ·simp only [jX] at hd;cases hd0:Nat.beq d 0
   ·rw [hd0] at hd; cases hd
   ·rw [hd0] at hd;simp only [QS,pS] at hd;subst hd;exact ⟨l,hown,hl,hbig⟩
  ·rw [hvb] at hb';exact ⟨.inl hb',hpb b' hb'⟩
  ·simp only [jX] at hd hd';cases hd0:Nat.beq d 0
   ·rw [hd0] at hd; cases hd
   ·cases hZ:Nat.beq d' 0
    ·rw [hZ] at hd'; cases hd'
    ·rw [CC hd0,CC hZ]
  ·cases s with
   | zero=>exact rfl
   | succ s=>trivial
 have hc:=hin p _ (.own 0::iK r.Ts y) (v0::vs) 1 _ _ w p _ [1] (fun _=>true) (h xs ys y (zw xs l hl) hbig (k8 _ _ _ hargs) hpre) hS
  (by rw [HN,HN,lx,gD _ _ _ hargs])
  (fun i a v ha hv=>by
   cases i with
   | zero =>
    simp only [List.getElem?_cons_zero,pS] at ha hv;subst ha hv;exact ⟨rfl,rfl⟩
   | succ i=>exact pJ r.Ts y vs hargs i a v (by simpa using ha) (by simpa using hv))
  ⟨(fun d hd=>by cases hd),(fun d e T xs _ _=>rfl),(fun d tm env hd=>by
   simp only [jX] at hd;cases hd0:Nat.beq d 0
   ·rw [hd0] at hd; cases hd
   ·rw [hd0] at hd; cases hd)⟩
  (fun d _ k=>rfl) (fun n _=>rfl) rfl (show 1<2 by decide)
 have ev:(v0::(vs++if r.tail=true then [v2] else [])).toArray=(v0::vs).toArray:=by rw [hnt]; simp
 rw [ev];refine hc.mono ?_;rintro e w' ⟨v,S3,rfl,hK,hF,_,p1,β1,hB⟩;unfold LO at hK;split at hK
 case h_2=>exact hK.elim
 rename_i d hd;split at hK
 case h_2=>exact hK.elim
 rename_i e T zs hlh;split at hK
 case isFalse=>exact hK.elim
 rename_i hT;subst hT;split at hK
 case isFalse=>exact hK.elim
 rename_i he;have he:=CC he;subst he;have hz:zs=r.F xs ys y:=hK;subst hz;have hv:=hB.env 1;rw [hd] at hv;have hv:v=β1 d:=hv;subst hv;obtain ⟨l',g1,g2,g3⟩:=hB.lhs d _ hlh;have hk:=hB.keep;refine ⟨β1 d,l',by rw [hout]; rfl,(fun h=>by rw [hout] at h; cases h),⟨hk.os,hk.tape,hk.output,hk.size,fun k hk1 hk2=>hk.block k hk1 (fun e=>hk2 e.symm)⟩,g1,c8 (fun x cs hcs=>lS _ _ _ hck.1.1 hcs) _ _ g2,g3,fun b hb=>?_⟩;rw [<- cP g1] at hb;exact (hB.owns d _ b hlh rfl hb).1
end
theorem BT {ss:Specs} {ann:Nat->Option LoopGen} {f:FuncId} {r:BoxFn} {pv:Prop} (hss:ss.ok Tryz.prog) (e:pv=Bs Tryz.prog ss ann f r) (h:pv):r.ok Tryz.prog f:=KO hss (e.mp h)
theorem O9 {ss:Specs} {ann:Nat->Option LoopGen} {f:FuncId} {r:RowFn} {pv:Prop} (hss:ss.ok Tryz.prog) (e:pv=Br Tryz.prog ss ann f r) (h:pv):r.ok Tryz.prog f:=JI hss (e.mp h)
end Go.Proofs.YtmfileeamnfpaaaGreatDoor
