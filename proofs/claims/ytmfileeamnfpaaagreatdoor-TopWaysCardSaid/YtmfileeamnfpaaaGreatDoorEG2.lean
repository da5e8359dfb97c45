
import Derived.Test.YtmfileeamnfpaaaGreatDoorEG1
import Derived.Laws.StructEq
import Derived.MapKept
namespace Go.Proofs.YtmfileeamnfpaaaGreatDoor
open Go
def Om:IntKind->Int->Bool
 | .i8,n=>decide (-128<=n)&&decide (n<=127)
 | .i16,n=>decide (-32768<=n)&&decide (n<=32767)
 | .i32,n=>decide (-2147483648<=n)&&decide (n<=2147483647)
 | .i64,n=>decide (-9223372036854775808<=n)&&decide (n<=9223372036854775807)
 | .u8,n=>decide (0<=n)&&decide (n<=255)
 | .u16,n=>decide (0<=n)&&decide (n<=65535)
 | .u32,n=>decide (0<=n)&&decide (n<=4294967295)
 | .u64,n=>decide (0<=n)&&decide (n<=18446744073709551615)
def AV.ofLeaf:Value->AV
 | .int k n=>if Om k n then .int k n else .any
 | .bool b=>.bool b
 | .string s=>if Nat.ble s.data.toList.length aF then .str s.data.toList else .any
 | .slice none 0 0=>.nils
 | .map none=>.nilm
 | .nilFunc=>.nilf
 | _=>.any
def AV.ofCells:List Value->AV
 | []=>.any
 | [v]=>.ofLeaf v
 | v::u::cs=>.pair (.ofLeaf v) (AV.ofCells (u::cs))
def AV.ofConst:Value->AV
 | .agg cs=>if Nat.ble 2 cs.toList.length then AV.ofCells cs.toList else .any
 | v=>.ofLeaf v
def cellsIn (P:Program) (t:TypeId):Option Nat:=(P.info? t).map (·.size)
def jc (lh:Nat->Option LE):AV->Bool
 | .int ..=>true
 | .bool _=>true
 | .str _=>true
 | .nils=>true
 | .sl ..=>true
 | .own d=>match lh d with
  | some (.row ..)=>true
  | some (.froz ..)=>true
  | _=>false
 | .pair ..=>true
 | .loc ..=>true
 | .pt ..=>true
 | .fn ..=>true
 | .nilm=>true
 | .nilf=>true
 | .md ..=>true
 | .mp d=>match lh d with
  | some (.mapp ..)=>true
  | some (.frozm ..)=>true
  | _=>false
 | _=>false
def iE (P:Program) (lh:Nat->Option LE) (fs:Array Field) (ρ:Operand->AV):List (Nat×Operand)->AV->Option AV
 | [],c=>some c
 | (i,x)::rest,c=>match fs[i]? with
  | none=>none
  | some f=>match cellsIn P f.type with
   | none=>none
   | some n=>if Nat.beq n 0 then none else if Nat.beq (ρ x).len n&&Nat.ble (f.offset+n) c.len&&jc lh (ρ x)
     then iE P lh fs ρ rest (AV.put f.offset (ρ x) n c) else none
def NR (n : Nat) (e : TypeId) (size : Nat) : Array Field := ((List.range n).map fun i => ({ name := "", type := e, offset := i * size, embedded := false, tag := "", pkgPath := "", byteOffset := 0 } : Field)).toArray
def nq (P:Program) (lh:Nat->Option LE) (t:TypeId) (parts:List (Nat×Operand)) (ρ:Operand->AV):td :=
 match P.info? t with
 | none=>none
 | some i=>match i.zero with
  | some (.agg z)=>if Nat.ble 2 z.toList.length then (match P.underlying t with
   | some (.struct fs)=>(iE P lh fs ρ parts (AV.ofCells z.toList)).map fun c=>([],c)
   | some (.array n e)=>(iE P lh (NR n e (((P.info? e).map (·.size)).getD 0)) ρ parts (AV.ofCells z.toList)).map fun c=>([],c)
   | _=>none) else none
  | _=>none
def Ds (mx:Bool):List AV->AV->Option AV
 | [],.int k a=>some (.int k a)
 | .int k' b::rest,.int k a=>if k'=k then Ds mx rest (.int k (bif mx then (if a<b then b else a) else (if b<a then b else a))) else none
 | _,_=>none
def An (P:Program) (lh:Nat->Option LE) (t:TypeId) (x:AV) (lo hi:Option AV):td :=
 match (match x with
  | .sl T xs=>if gG P t T then some (⟨T,xs⟩:(T:Ty)×List T.den) else none
  | .own d=>match lh d with
   | some (.froz T xs)=>if gG P t T then some ⟨T,xs⟩ else none
   | _=>none
  | _=>none) with
 | some ⟨T,xs⟩=>match lo,hi with
  | none,none=>some ([],.sl T xs)
  | some (.int _ a),none=>some ([0<=a,a<=(xs.length:Int)],.sl T (xs.drop a.toNat))
  | none,some (.int _ b)=>some ([0<=b,b<=(xs.length:Int)],.sl T (xs.take b.toNat))
  | some (.int _ a),some (.int _ b)=>some ([0<=a,a<=b,b<=(xs.length:Int)],.sl T ((xs.take b.toNat).drop a.toNat))
  | _,_=>none
 | none=>match x with
  | .str s=>if qP P t then (match lo,hi with
   | none,none=>some ([],.str s)
   | some (.int _ a),none=>some ([0<=a,a<=(s.length:Int)],.str (s.drop a.toNat))
   | none,some (.int _ b)=>some ([0<=b,b<=(s.length:Int)],.str (s.take b.toNat))
   | some (.int _ a),some (.int _ b)=>some ([0<=a,a<=b,b<=(s.length:Int)],.str ((s.take b.toNat).drop a.toNat))
   | _,_=>none) else none
  | _=>none
def u7 (P:Program) (t:TypeId) (x i:AV):td :=
 match x,i with
 | .str s,.int _ n=>if qP P t then some ([0<=n,n<(s.length:Int)],.int .u8 (((s.getD n.toNat 0).toNat:Nat):Int)) else none
 | .pair a b,.int _ n=>match tc P t (.pair a b) with
  | some (k,xs)=>some ([0<=n,n<(xs.length:Int)],.int k (xs.getD n.toNat 0))
  | none=>none
 | _,_=>none
def qy:List AV->Option (List (Nat×Nat))
 | []=>some []
 | .loc d off::avs=>(qy avs).map ((d,off)::·)
 | _=>none
section
variable {M:Nat->Prop} {p0:PH} {w0:World} {S:St} {tm:Array Value} {w:World} {p:PH} {β:Nat->Value} {P:Program}
theorem Jg {k:IntKind} {n:Int} (h:Om k n=true):am k n:=by
 cases k <;> simpa [Om,am] using h
theorem ol (v:Value):(AV.ofLeaf v).one p β v:=by
 unfold AV.ofLeaf;split
 ·split
  ·rename_i h; exact ⟨rfl,Jg h⟩
  ·trivial
 ·rfl
 ·split
  ·rename_i s h; exact ⟨rfl,PN h⟩
  ·trivial
 ·rfl
 ·rfl
 ·rfl
 ·trivial
theorem cC:∀ (cs:List Value),cs≠[]->(AV.ofCells cs).cells p β cs
 | [],h=>absurd rfl h
 | [v],_=>AV.one_cells (ol v)
 | v::u::cs,_=>⟨ol v,cC (u::cs) (by simp)⟩
theorem C0 (v:Value):(AV.ofConst v).val p β tm v:=by
 unfold AV.ofConst;split
 ·split
  ·rename_i cs h;have h:=PN h;have:=AV.val_of_cells_agg (tm:=tm) (cC (p:=p) (β:=β) cs.toList (by intro e; rw [e] at h; simp at h)) (by simpa using h);simpa using this
  ·trivial
 ·exact AV.val_of_one (ol v)
theorem AV.cells_put:∀ (off:Nat) (v:AV) (n:Nat) (a:AV) (vs cs:List Value),a.cells p β cs->v.cells p β vs->vs.length=n->0<n->off+n<=cs.length ->
  (AV.put off v n a).cells p β (cs.take off++vs++cs.drop (off+n))
 | 0,v,n,a,vs,cs,ha,hv,hn,h0,hl=>by
  have hlen:=AV.len_cells a cs ha;simp only [Q5,P0,Qg];unfold AV.put;split
  ·rename_i hb;have:=Pw hb;rw [P7 (by omega),Qi];exact hv
  ·rename_i hb;have hne:a.len≠n:=by intro e; rw [e] at hb; simp at hb
   exact AV.cells_app _ _ _ _ hv (AV.cells_drop n a cs ha (by omega))
 | off+1,v,n,a,vs,cs,ha,hv,hn,h0,hl=>by
  by_cases hp:∀ x y,a≠.pair x y
  ·obtain ⟨u,rfl,_⟩:=(AV.cells_leaf a hp cs).1 ha;simp at hl;omega
  ·cases a <;> (first | (exfalso; apply hp; intro x y e; cases e; done) | skip);rename_i x y
   match cs,ha with
   | u::cs,ha =>
    have ih:=AV.cells_put off v n y vs cs ha.2 hv hn h0 (by simp at hl; omega);have e:off+1+n=(off+n)+1:=by omega
    simp only [AV.put,e,QV,QX,Qs];exact ⟨ha.1,ih⟩
theorem no (off:Nat):∀ (vs:List Value) (k:Nat) (cs:Array Value),off+k+vs.length<=cs.size ->
  ((vs.zipIdx k).foldl (fun cs (x:Value×Nat)=>cs.setIfInBounds (off+x.2) x.1) cs).toList=cs.toList.take (off+k)++vs++cs.toList.drop (off+k+vs.length)
 | [],k,cs,_=>by simp
 | v::vs,k,cs,h=>by
  simp only [Pz] at h;have ih:=no off vs (k+1) (cs.setIfInBounds (off+k) v) (by simp; omega);simp only [List.zipIdx_cons,Q1];rw [ih];have hlt:off+k<cs.toList.length:=by simp; omega
  simp only [Array.toList_setIfInBounds,Pz];rw [List.set_eq_take_append_cons_drop,if_pos hlt];have hl:(cs.toList.take (off+k)).length=off+k:=by simp; omega
  have e1:(cs.toList.take (off+k)++v::cs.toList.drop (off+k+1)).take (off+(k+1))=cs.toList.take (off+k)++[v]:=by
   rw [R1,hl,PJ (by rw [hl]; omega)];congr 1;rw [show off+(k+1) - (off+k)=1 by omega];rfl
  have e2:(cs.toList.take (off+k)++v::cs.toList.drop (off+k+1)).drop (off+(k+1)+vs.length)=cs.toList.drop (off+k+(vs.length+1)):=by
   rw [Rx,hl,P7 (by rw [hl]; omega),P0];rw [show off+(k+1)+vs.length - (off+k)=vs.length+1 by omega,QX,QZ];congr 1;omega
  rw [e1,e2];simp
theorem kW (hS:SatB M p0 w0 S tm w p β) {a:AV} {v:Value} (h:a.val p β tm v) (hok:jc S.lh a=true):a.cells p β v.cells.toList:=by
 cases a <;> (first | (cases hok; done) | skip)
 case pair x y =>
  obtain ⟨cs,rfl,hc⟩:=h;exact hc
 case int k n=>obtain ⟨rfl,hr⟩:=h; exact ⟨rfl,hr⟩
 case bool b=>obtain rfl:=kX h; exact rfl
 case str s=>obtain ⟨rfl,hr⟩:=h; exact ⟨rfl,hr⟩
 case nils =>
  have h':v=.slice none 0 0:=h;subst h'; exact rfl
 case sl T xs =>
  have h':(Ty.arr T).holds p xs [v]:=h
  have hv:v.cells.toList=[v]:=by
   obtain ⟨A,c,l,e,_⟩:=h';injection e with e _
   rw [e]; rfl
  rw [hv];exact AV.one_cells (β:=β) h'
 case own d =>
  have h':v=β d:=h
  have hv:v.cells.toList=[v]:=by
   simp only [jc] at hok;split at hok
   ·rename_i hd;obtain ⟨A,c,e,_⟩:=zD hS hd;rw [h',e]; rfl
   ·rename_i hd;obtain ⟨A,c,e,_⟩:=ql (hS.lhs _ _ hd);rw [h',e]; rfl
   ·cases hok
  rw [hv];exact AV.one_cells (p:=p) h'
 case loc d off =>
  obtain ⟨b,e,rfl⟩:=h;exact AV.one_cells (p:=p) (a:=.loc d off) ⟨b,e,rfl⟩
 case pt T x off =>
  obtain ⟨b,o,es,rfl,h1,h2⟩:=h;exact AV.one_cells (β:=β) (a:=.pt T x off) ⟨b,o,es,rfl,h1,h2⟩
 case fn f c1 c2 =>
  obtain ⟨v1,v2,rfl,h1,h2⟩:=h;exact AV.one_cells (p:=p) (a:=.fn f c1 c2) ⟨v1,v2,rfl,h1,h2⟩
 case nilm =>
  have h':v=.map none:=h;subst h'; exact rfl
 case nilf =>
  have h':v=.nilFunc:=h;subst h'; exact rfl
 case md k V m =>
  have h':(Ty.map k V).holds p m [v]:=h
  have hv:v.cells.toList=[v]:=by
   rcases h' with ⟨e,_⟩ | ⟨_,_,_,e,_⟩ <;> (injection e with e _; rw [e]; rfl)
  rw [hv];exact AV.one_cells (β:=β) (a:=.md k V m) h'
 case mp d =>
  have h':v=β d:=h
  have hv:v.cells.toList=[v]:=by
   simp only [jc] at hok;split at hok
   ·rename_i hd;obtain ⟨r,es,clock,e,_⟩:=hS.lhs d _ hd;rw [h',e]; rfl
   ·rename_i hd;rcases hS.lhs d _ hd with ⟨e,_⟩ | ⟨_,_,_,e,_⟩ <;> (injection e with e _; rw [h',e]; rfl)
   ·cases hok
  rw [hv];exact AV.one_cells (p:=p) h'
theorem AH {t:TypeId} {n:Nat} (h:cellsIn P t=some n):∃ i,P.info? t=some i/\i.size=n:=by
 unfold cellsIn at h;cases hi:P.info? t with
 | none=>rw [hi] at h; cases h
 | some i=>rw [hi] at h; injection h with h; exact ⟨i,rfl,h⟩
theorem lN (hS:SatB M p0 w0 S tm w p β) {fs:Array Field} {ρ:Operand->AV} {σ:Operand->Value} (hρ:∀ x,(ρ x).val p β tm (σ x)) {pl:Nat->Option (Nat×Nat)}
  (hpl:∀ (i:Nat) f,fs[i]?=some f->∃ n,cellsIn P f.type=some n/\pl i=some (f.offset,n)):∀ (parts:List (Nat×Operand)) (c r:AV) (cs:Array Value),
  iE P S.lh fs ρ parts c=some r->c.cells p β cs.toList ->
  ∃ cs',Instr.fill pl cs (parts.map fun x=>(x.1,σ x.2))=some cs'/\r.cells p β cs'.toList
 | [],c,r,cs,h,hc=>by
  simp only [iE,Ps] at h;subst h;exact ⟨cs,rfl,hc⟩
 | (i,x)::rest,c,r,cs,h,hc=>by
  simp only [iE] at h;split at h <;> try cases h
  rename_i f hf;split at h <;> try cases h
  rename_i n hn;split at h
  ·cases h
  rename_i hz;have hz:n≠0:=by intro e; rw [e] at hz; simp at hz
  split at h
  ·rename_i hb;simp only [Px] at hb;obtain ⟨⟨h1,h2⟩,h3⟩:=hb;have h1:=Pw h1;have h2:=PN h2;have hv:=kW hS (hρ x) h3;have hlv:=AV.len_cells _ _ hv;have hlc:=AV.len_cells _ _ hc;obtain ⟨n',hn',hp⟩:=hpl i f hf;rw [hn] at hn';injection hn' with hn'
   subst hn';have hsz:(σ x).cells.size=n:=by have:=hlv; simp at this; omega
   have hput:=AV.cells_put f.offset (ρ x) n c _ _ hc hv (by simpa using hsz) (by omega) (by omega);have hfs:=no f.offset (σ x).cells.toList 0 cs (by simp at hlc; simp; omega);simp only [QU] at hfs;have hlen:(σ x).cells.toList.length=n:=by simpa using hsz
   rw [hlen] at hfs;rw [<- hfs] at hput;obtain ⟨cs',h4,h5⟩:=lN hS hρ hpl rest _ r _ h hput;refine ⟨cs',?_,h5⟩;simp only [Qf,Instr.fill,hp]
   have hc2:¬ ((σ x).cells.size≠n||decide (f.offset+(σ x).cells.size > cs.size))=true:=by
    simp at hlc;simp [hsz];omega
   rw [if_neg hc2];rw [<- h4];congr 1;rw [<- Array.foldl_toList];simp
  ·cases h
end
section
variable {M:Nat->Prop} {p0:PH} {w0:World} {S:St} {tm:Array Value} {w:World} {p:PH} {β:Nat->Value} {P:Program}
theorem uC:∀ (fs:List Field),(∀ f∈fs,(P.info? f.type).isSome=true) ->
  (fs.mapM (fun f=>(do pure (f.offset,<- sizeOf f.type):Sem (Nat×Nat)))).run P w=.ok (fs.map fun f=>(f.offset,((P.info? f.type).map (·.size)).getD 0)) w
 | [],_=>by simp
 | f::fs,h=>by
  have h1:=h f (by simp);obtain ⟨i,hi⟩:=Q7.1 h1;have ih:=uC fs (fun g hg=>h g (by simp [hg]));simp only [List.mapM_cons,PR,sizeOf,typeInfo,Rd,hi,PL,P2];simp only [sizeOf,typeInfo] at ih;rw [ih];simp [hi]
def vJ (P:Program) (fs:Array Field):Bool:=fs.toList.all fun f=>(P.info? f.type).isSome
theorem LG {fs:Array Field} {ρ:Operand->AV}:∀ (ps:List (Nat×Operand)) (c0 r0:AV),iE P S.lh fs ρ ps c0=some r0->2<=c0.len->2<=r0.len:=by
 intro ps
 induction ps with
 | nil=>intro c0 r0 h hl; simp only [iE,Ps] at h; subst h; exact hl
 | cons q ps ih =>
  intro c0 r0 h hl;obtain ⟨i,x⟩:=q;simp only [iE] at h;split at h <;> try cases h
  split at h <;> try cases h
  rename_i n _;split at h
  ·cases h
  rename_i hz;have hz:n≠0:=by intro e; rw [e] at hz; simp at hz
  split at h
  ·rename_i f hf _ hn' hb;simp only [Px] at hb;have b1:=Pw hb.1.1;have b2:=PN hb.1.2;refine ih _ r0 h ?_
   have put_len:∀ (off:Nat) (c0:AV),off+n<=c0.len->2<=c0.len->c0.len<=(AV.put off (ρ x) n c0).len:=by
    have app_len:∀ (a b:AV),(a.app b).len=a.len+b.len:=by
     intro a
     induction a with
     | pair x y _ ih2=>intro b; simp only [AV.app,AV.len,ih2 b]; omega
     | _=>intro b; rfl
    have drop_len:∀ (k:Nat) (c0:AV),k<c0.len->(c0.drop k).len=c0.len - k:=by
     intro k
     induction k with
     | zero=>intro c0 _; rfl
     | succ k ihk =>
      intro c0 hk;cases c0 <;> simp only [AV.len] at hk <;> (first | omega | skip);rename_i u v;simp only [AV.drop,AV.len];rw [ihk v (by omega)];omega
    intro off
    induction off with
    | zero =>
     intro c0 h1 h2;unfold AV.put;split
     ·rename_i hb2; have:=Pw hb2; omega
     ·rename_i hb2;have hne:c0.len≠n:=by intro e; rw [e] at hb2; simp at hb2
      rw [app_len,drop_len n c0 (by omega)];omega
    | succ off iho =>
     intro c0 h1 h2;cases c0 <;> simp only [AV.len] at h1 <;> (first | omega | skip);rename_i u v;simp only [AV.put,AV.len];rcases PU v.len 2 with hv | hv
     ·
      have hv1:v.len=1:=by
       have:0<v.len:=by cases v <;> simp [AV.len]; omega
       omega
      have:off=0:=by omega
      subst this;have:n=1:=by omega
      unfold AV.put;rw [if_pos (by rw [hv1,this]; rfl)];omega
     ·have:=iho v (by omega) hv;omega
   exact P9 hl (put_len _ c0 b2 hl)
  ·cases h
theorem wO (hS:SatB M p0 w0 S tm w p β) {t:TypeId} {parts:Array (Nat×Operand)} {ρ:Operand->AV} {σ:Operand->Value} {ps:List Prop} {r:AV}
  (h:nq P S.lh t parts.toList ρ=some (ps,r)) (hρ:∀ x,(ρ x).val p β tm (σ x)) (hsz:∀ fs,P.underlying t=some (.struct fs)->vJ P fs=true) (hse:∀ n e,P.underlying t=some (.array n e)->(P.info? e).isSome=true) :
  cz P (Instr.build t (parts.map fun x=>(x.1,σ x.2))) w p β tm r:=by
 unfold nq at h;split at h <;> try cases h
 rename_i i hi;split at h <;> try cases h
 rename_i z hz;split at h <;> try cases h
 rename_i h2;have h2:=PN h2;have hz0:z.toList≠[]:=by intro e; rw [e] at h2; simp at h2
 have e2:(parts.map fun x=>(x.1,σ x.2)).toList=parts.toList.map fun x=>(x.1,σ x.2):=by simp
 have fin:∀ {fs:Array Field} {c:AV} {cs':Array Value},iE P S.lh fs ρ parts.toList (AV.ofCells z.toList)=some c->c.cells p β cs'.toList->c.val p β tm (.agg cs'):=by
  intro fs c cs' hc h4;have hl:=AV.len_cells _ _ h4
  have hlen:cs'.toList.length≥2:=by
   rw [hl];refine LG _ _ _ hc ?_;have:=AV.len_cells _ _ (cC (p:=p) (β:=β) z.toList hz0);omega
  have:=AV.val_of_cells_agg (tm:=tm) h4 hlen;simpa using this
 split at h <;> try cases h
 ·rename_i fs hu;have hs:=hsz fs hu;simp only [Py,Pv] at h;obtain ⟨c,hc,rfl,rfl⟩:=h
  have hsome:∀ f∈fs.toList,(P.info? f.type).isSome=true:=by
   unfold vJ at hs;exact PA.1 hs
  obtain ⟨cs',h3,h4⟩:=lN hS hρ (pl:=fun x=>(fs.toList.map fun f=>(f.offset,((P.info? f.type).map (·.size)).getD 0)).toArray[x]?) (by
   intro i f hf;have hm:f∈fs.toList:=by simpa using Array.mem_of_getElem? hf
   obtain ⟨inf,hinf⟩:=Q7.1 (hsome f hm);refine ⟨inf.size,by simp [Go.Proofs.YtmfileeamnfpaaaGreatDoor.cellsIn,hinf],?_⟩;have:fs.toList[i]?=some f:=by simpa using hf
   simp [this,hinf]) parts.toList _ _ z hc (cC z.toList hz0)
  refine ⟨.agg cs',?_,fin hc h4⟩;have hm:=uC (P:=P) (w:=w) fs.toList hsome
  have e:(fs.mapM (fun f=>(do pure (f.offset,<- sizeOf f.type):Sem (Nat×Nat))))=(List.toArray <$> fs.toList.mapM (fun f=>(do pure (f.offset,<- sizeOf f.type):Sem (Nat×Nat)))):=by
   rw [Array.mapM_eq_mapM_toList]
  simp only [Instr.build,PR,zeroValue,typeInfo,Rd,hi,hz,PL,P2,PS hu];simp only [e,Sem.run_map,hm];simp only [Value.cells];rw [e2]
  show Sem.run P (match Instr.fill (fun x=>(List.map (fun f=>(f.offset,(Option.map (fun x=>x.size) (P.info? f.type)).getD 0)) fs.toList).toArray[x]?) z (List.map (fun x=>(x.fst,σ x.snd)) parts.toList) with
    | some cells=>pure (Value.agg cells)
    | x=>stuck _) w=_
  rw [h3];rfl
 ·rename_i n e hu;obtain ⟨inf,hinf⟩:=Q7.1 (hse n e hu);simp only [Py,Pv] at h;obtain ⟨c,hc,rfl,rfl⟩:=h;rw [hinf] at hc
  obtain ⟨cs',h3,h4⟩:=lN hS hρ (pl:=fun x=>some (x * inf.size,inf.size)) (by
   intro i f hf
   have hf' : ((List.range n).map fun i => ({ name := "", type := e, offset := i * inf.size, embedded := false, tag := "", pkgPath := "", byteOffset := 0 } : Field))[i]? = some f := by
    simpa [NR] using hf
   rw [List.getElem?_map] at hf';obtain ⟨j,hj,rfl⟩:=Py.1 hf'
   have hj2:j=i:=by
    rw [List.getElem?_range (by
     rcases PU i n with h | h
     ·exact h
     ·rw [List.getElem?_eq_none (by simpa using h)] at hj; cases hj)] at hj
    injection hj with hj
    exact hj.symm
   subst hj2;exact ⟨inf.size,by simp [Go.Proofs.YtmfileeamnfpaaaGreatDoor.cellsIn,hinf],rfl⟩) parts.toList _ _ z hc (cC z.toList hz0)
  refine ⟨.agg cs',?_,fin hc h4⟩;simp only [Instr.build,PR,zeroValue,typeInfo,Rd,hi,hz,PL,P2,PS hu,sizeOf,hinf];simp only [Value.cells];rw [e2];rw [h3];rfl
theorem eZ {α:Type} {h:α->List Value->Prop} {n:Nat} (hn:∀ x cs,h x cs->cs.length=n):∀ (i:Nat) (xs:List α) (cs:List Value),aM h xs cs->aM h (xs.drop i) (cs.drop (i * n))
 | 0,_,_,hr=>by simpa using hr
 | i+1,[],cs,hr=>by simp only [aM] at hr; subst hr; simp [aM]
 | i+1,x::xs,cs,hr=>by
  obtain ⟨c1,c2,rfl,h1,h2⟩:=hr;have l1:=hn _ _ h1
  have e:(c1++c2).drop ((i+1) * n)=c2.drop (i * n):=by
   rw [QR,Rx,P7 (by omega),P0];congr 1;omega
  rw [e];exact eZ hn i xs c2 h2
theorem dw {α:Type} {h:α->List Value->Prop} {n:Nat} (hn:∀ x cs,h x cs->cs.length=n):∀ (i:Nat) (xs:List α) (cs:List Value),aM h xs cs->aM h (xs.take i) (cs.take (i * n))
 | 0,_,_,_=>by simp [aM]
 | i+1,[],cs,hr=>by simp only [aM] at hr; subst hr; simp [aM]
 | i+1,x::xs,cs,hr=>by
  obtain ⟨c1,c2,rfl,h1,h2⟩:=hr;have l1:=hn _ _ h1;refine ⟨c1,c2.take (i * n),?_,h1,dw hn i xs c2 h2⟩;rw [QR,R1,PJ (by omega)];congr 2;omega
theorem Hr {T:Ty} {xs:List T.den} {b o c:Nat} {A:Option Addr} {l:List Value} (hA:A=some ⟨b,o,none⟩\/xs=[]) (hx:xs.length<=c) (hb:xs.length * T.bytes<=aF)
  (hr:aM (T.holds p) xs l) (hc:xs≠[]->∀ j u,l[j]?=some u->p.cell b (o+j)=some u) {i j:Nat} (hij:i<=j) (hj:j<=xs.length) :
  (Ty.arr T).holds p ((xs.take j).drop i) [.slice (if c=i then A else A.map (·.add (i * T.size))) (j - i) (c - i)]:=by
 have hlen:((xs.take j).drop i).length=j - i:=by simp; omega
 have hn:=fun x cs h=>Ty.holds_length (p:=p) T x cs h
 have hrow:=eZ hn i _ _ (dw hn j xs l hr);refine ⟨_,_,_,by rw [hlen],by rw [hlen]; omega,?_,hrow,fun hne=>?_⟩
 ·rw [hlen];exact P9 (P8 _ (by omega)) hb
 ·have hpos:0<j - i:=by
   rcases Nat.eq_zero_or_pos (j - i) with h0 | h0
   ·exact absurd (PO (by omega)) hne
   ·exact h0
  have hxs:xs≠[]:=by intro e; subst e; simp at hj; omega
  rcases hA with rfl | hA
  ·refine ⟨b,o+i * T.size,?_,fun k u hu=>?_⟩
   ·rw [if_neg (by omega)];simp [fM]
   ·have h1:(l.take (j * T.size))[i * T.size+k]?=some u:=by rwa [List.getElem?_drop] at hu
    rw [List.getElem?_take] at h1;split at h1
    ·rw [Ru]; exact hc hxs _ u h1
    ·cases h1
  ·exact absurd hA hxs
end
section
variable {M:Nat->Prop} {p0:PH} {w0:World} {S:St} {tm:Array Value} {w:World} {p:PH} {β:Nat->Value} {P:Program}
theorem eK {k:IntKind} {n:Int} {y:Nat} {code:BoundsCode} (h0:0<=n) (h1:n<=(y:Int)):(Instr.sliceBound (.int k n) y code).run P w=.ok n.toNat w:=by
 simp [Instr.sliceBound,asIntOf,h0,h1]
theorem gN {t e:TypeId} {i:TypeInfo} (hu:P.underlying t=some (.slice e)) (hi:P.info? e=some i) {A:Option Addr} {len cap:Nat} {lo hi':Option Value} {l h:Nat} (hl:l<=h) (hh:h<=len) (hc:len<=cap)
  (hlo:(lo=none/\l=0)\/∃ k,lo=some (.int k (l:Int))) (hhi:(hi'=none/\h=len)\/∃ k,hi'=some (.int k (h:Int))) :
  (Instr.sliceAt t (.slice A len cap) lo hi' none).run P w=.ok (.slice (if cap=l then A else A.map (·.add (l * i.size))) (h - l) (cap - l)) w:=by
 have b:(Instr.sliceBounds true len cap lo hi' none).run P w=.ok (l,h,cap) w:=by
  rcases hhi with ⟨rfl,rfl⟩ | ⟨k,rfl⟩
  ·rcases hlo with ⟨rfl,rfl⟩ | ⟨k,rfl⟩
   ·simp [Instr.sliceBounds]
   ·have:=eK (P:=P) (w:=w) (k:=k) (n:=(l:Int)) (y:=h) (code:=.sliceB) (by omega) (by omega);simp [Instr.sliceBounds,this]
  ·have h1:=eK (P:=P) (w:=w) (k:=k) (n:=(h:Int)) (y:=cap) (code:=.sliceAcap) (by omega) (by omega);rcases hlo with ⟨rfl,rfl⟩ | ⟨k',rfl⟩
   ·simp [Instr.sliceBounds,h1]
   ·have:=eK (P:=P) (w:=w) (k:=k') (n:=(l:Int)) (y:=h) (code:=.sliceB) (by omega) (by omega);simp [Instr.sliceBounds,this,h1]
 simp only [Instr.sliceAt,PR,PS hu,PL,Instr.slice,b,sizeOf,typeInfo,Rd,hi,P2]
theorem wq {t:TypeId} (hu:P.underlying t=some .string) {s:List UInt8} {lo hi':Option Value} {l h:Nat} (hl:l<=h) (hh:h<=s.length)
  (hlo:(lo=none/\l=0)\/∃ k,lo=some (.int k (l:Int))) (hhi:(hi'=none/\h=s.length)\/∃ k,hi'=some (.int k (h:Int))) :
  (Instr.sliceAt t (.string ⟨s.toArray⟩) lo hi' none).run P w=.ok (.string ⟨((s.take h).drop l).toArray⟩) w:=by
 have hs:(⟨s.toArray⟩:ByteArray).size=s.length:=by simp [ByteArray.size]
 have b:(Instr.sliceBounds false s.length s.length lo hi' none).run P w=.ok (l,h,s.length) w:=by
  rcases hhi with ⟨rfl,rfl⟩ | ⟨k,rfl⟩
  ·rcases hlo with ⟨rfl,rfl⟩ | ⟨k,rfl⟩
   ·simp [Instr.sliceBounds]
   ·have:=eK (P:=P) (w:=w) (k:=k) (n:=(l:Int)) (y:=s.length) (code:=.sliceB) (by omega) (by omega);simp [Instr.sliceBounds,this]
  ·have h1:=eK (P:=P) (w:=w) (k:=k) (n:=(h:Int)) (y:=s.length) (code:=.sliceAlen) (by omega) (by omega);rcases hlo with ⟨rfl,rfl⟩ | ⟨k',rfl⟩
   ·simp [Instr.sliceBounds,h1]
   ·have:=eK (P:=P) (w:=w) (k:=k') (n:=(l:Int)) (y:=h) (code:=.sliceB) (by omega) (by omega);simp [Instr.sliceBounds,this,h1]
 simp only [Instr.sliceAt,PR,PS hu,PL,Instr.slice,hs,b,P2,Option.isSome_none,PG,P5];congr 2;apply ByteArray.ext;simp [ByteArray.data_extract,List.extract_eq_take_drop,List.drop_take]
theorem eE {k:IntKind} {n:Int} {v:Value} (h:(AV.int k n).val p β tm v) (h0:0<=n):v=.int k (n.toNat:Int):=by
 obtain ⟨rfl,_⟩:=h;rw [Rw h0]
theorem ls {α:Type} (xs:List α) (i:Nat):(xs.take xs.length).drop i=xs.drop i:=by rw [List.take_length]
theorem Mf {T:Ty} {xs:List T.den} {v:Value} (h:(Ty.arr T).holds p xs [v]):∃ A c,v=.slice A xs.length c/\xs.length<=c /\
  ∀ i j,i<=j->j<=xs.length->(Ty.arr T).holds p ((xs.take j).drop i) [.slice (if c=i then A else A.map (·.add (i * T.size))) (j - i) (c - i)]:=by
 obtain ⟨A,c,l,e,h1,h2,h3,h4⟩:=h;injection e with e _
 refine ⟨A,c,e,h1,fun i j hij hj=>?_⟩;by_cases hx:xs=[]
 ·exact Hr (b:=0) (o:=0) (.inr hx) h1 h2 h3 (fun hne=>absurd hx hne) hij hj
 ·obtain ⟨b,o,hA,hc⟩:=h4 hx;exact Hr (.inl hA) h1 h2 h3 (fun _=>hc) hij hj
theorem ig {vlo:Option Value} (h:((none:Option AV)=none/\vlo=none)\/∃ a v,(none:Option AV)=some a/\vlo=some v/\a.val p β tm v):vlo=none:=by
 rcases h with ⟨_,h⟩ | ⟨_,_,e,_⟩
 ·exact h
 ·cases e
theorem ia {a:AV} {vlo:Option Value} (h:(some a=none/\vlo=none)\/∃ a' v,some a=some a'/\vlo=some v/\a'.val p β tm v):∃ v,vlo=some v/\a.val p β tm v:=by
 rcases h with ⟨e,_⟩ | ⟨a',v,e,h1,h2⟩
 ·cases e
 ·injection e with e; subst e; exact ⟨v,h1,h2⟩
theorem wJ (hS:SatB M p0 w0 S tm w p β) {t:TypeId} {x:AV} {lo hi:Option AV} {vx:Value} {vlo vhi:Option Value} {ps:List Prop} {r:AV}
  (h:An P S.lh t x lo hi=some (ps,r)) (hps:∀ q∈ps,q) (hx:x.val p β tm vx)
  (hlo:(lo=none/\vlo=none)\/∃ a v,lo=some a/\vlo=some v/\a.val p β tm v) (hhi:(hi=none/\vhi=none)\/∃ a v,hi=some a/\vhi=some v/\a.val p β tm v) :
  cz P (Instr.sliceAt t vx vlo vhi none) w p β tm r:=by
 have sl:∀ {T:Ty} {xs:List T.den} {v:Value} {i j:Nat},gG P t T=true->(Ty.arr T).holds p xs [v]->i<=j->j<=xs.length ->
   ((vlo=none/\i=0)\/∃ k,vlo=some (.int k (i:Int)))->((vhi=none/\j=xs.length)\/∃ k,vhi=some (.int k (j:Int))) ->
   cz P (Instr.sliceAt t v vlo vhi none) w p β tm (.sl T ((xs.take j).drop i)):=by
  intro T xs v i j hok hv hij hj h1 h2;obtain ⟨e,inf,hu,hinf,hsz⟩:=fJ hok;obtain ⟨A,c,rfl,hc,hsub⟩:=Mf hv;exact ⟨_,gN hu hinf hij hj hc h1 h2,by rw [hsz]; exact hsub i j hij hj⟩
 have st:∀ {s:List UInt8} {i j:Nat},qP P t=true->s.length<=aF->i<=j->j<=s.length ->
   ((vlo=none/\i=0)\/∃ k,vlo=some (.int k (i:Int)))->((vhi=none/\j=s.length)\/∃ k,vhi=some (.int k (j:Int))) ->
   cz P (Instr.sliceAt t (.string ⟨s.toArray⟩) vlo vhi none) w p β tm (.str ((s.take j).drop i)):=by
  intro s i j ht hb hij hj h1 h2;exact ⟨_,wq (mQ ht) hij hj h1 h2,rfl,by simp; omega⟩
 unfold An at h;split at h
 ·rename_i T xs hm
  have hxs:(Ty.arr T).holds p xs [vx]/\gG P t T=true:=by
   split at hm
   ·split at hm
    ·rename_i hok;injection hm with hm
     cases hm;exact ⟨hx,hok⟩
    ·cases hm
   ·split at hm
    ·split at hm
     ·rename_i hd hok;injection hm with hm
      cases hm;have hx':vx=β _:=hx;rw [hx'];exact ⟨hS.lhs _ _ hd,hok⟩
     ·cases hm
    ·cases hm
   ·cases hm
  obtain ⟨hv,hok⟩:=hxs;split at h <;> simp only [Ps,Pv,reduceCtorEq] at h <;> obtain ⟨rfl,rfl⟩:=h
  ·obtain rfl:=ig hlo;obtain rfl:=ig hhi;have:=sl hok hv (Qa _) (PP _) (.inl ⟨rfl,rfl⟩) (.inl ⟨rfl,rfl⟩);simpa using this
  ·rename_i k a;obtain ⟨v,rfl,ha⟩:=ia hlo;obtain rfl:=ig hhi;have h0:0<=a:=hps _ (by simp);have h1:a<=(xs.length:Int):=hps _ (by simp);have:=sl hok hv (i:=a.toNat) (by omega) (PP _) (.inr ⟨k,by rw [eE ha h0]⟩) (.inl ⟨rfl,rfl⟩)
   rwa [ls] at this
  ·rename_i k b;obtain rfl:=ig hlo;obtain ⟨v,rfl,ha⟩:=ia hhi;have h0:0<=b:=hps _ (by simp);have h1:b<=(xs.length:Int):=hps _ (by simp);have:=sl hok hv (j:=b.toNat) (Qa _) (by omega) (.inl ⟨rfl,rfl⟩) (.inr ⟨k,by rw [eE ha h0]⟩);simpa using this
  ·rename_i k a k' b;obtain ⟨v,rfl,ha⟩:=ia hlo;obtain ⟨v',rfl,ha'⟩:=ia hhi;have h0:0<=a:=hps _ (by simp);have h1:a<=b:=hps _ (by simp);have h2:b<=(xs.length:Int):=hps _ (by simp);exact sl hok hv (i:=a.toNat) (j:=b.toNat) (by omega) (by omega) (.inr ⟨k,by rw [eE ha h0]⟩) (.inr ⟨k',by rw [eE ha' (by omega)]⟩)
 ·split at h
  ·rename_i s _;split at h
   ·rename_i ht;obtain ⟨rfl,hb⟩:=kc hx;split at h <;> simp only [Ps,Pv,reduceCtorEq] at h <;> obtain ⟨rfl,rfl⟩:=h
    ·obtain rfl:=ig hlo;obtain rfl:=ig hhi;have:=st ht hb (Qa _) (PP _) (.inl ⟨rfl,rfl⟩) (.inl ⟨rfl,rfl⟩);simpa using this
    ·rename_i k a;obtain ⟨v,rfl,ha⟩:=ia hlo;obtain rfl:=ig hhi;have h0:0<=a:=hps _ (by simp);have h1:a<=(s.length:Int):=hps _ (by simp);have:=st ht hb (i:=a.toNat) (by omega) (PP _) (.inr ⟨k,by rw [eE ha h0]⟩) (.inl ⟨rfl,rfl⟩)
     rwa [ls] at this
    ·rename_i k b;obtain rfl:=ig hlo;obtain ⟨v,rfl,ha⟩:=ia hhi;have h0:0<=b:=hps _ (by simp);have h1:b<=(s.length:Int):=hps _ (by simp);have:=st ht hb (j:=b.toNat) (Qa _) (by omega) (.inl ⟨rfl,rfl⟩) (.inr ⟨k,by rw [eE ha h0]⟩);simpa using this
    ·rename_i k a k' b;obtain ⟨v,rfl,ha⟩:=ia hlo;obtain ⟨v',rfl,ha'⟩:=ia hhi;have h0:0<=a:=hps _ (by simp);have h1:a<=b:=hps _ (by simp);have h2:b<=(s.length:Int):=hps _ (by simp);exact st ht hb (i:=a.toNat) (j:=b.toNat) (by omega) (by omega) (.inr ⟨k,by rw [eE ha h0]⟩) (.inr ⟨k',by rw [eE ha' (by omega)]⟩)
   ·cases h
  ·cases h
theorem u6 {t:TypeId} {x i:AV} {vx vi:Value} {ps:List Prop} {r:AV} (h:u7 P t x i=some (ps,r)) (hps:∀ q∈ps,q)
  (hx:x.val p β tm vx) (hi:i.val p β tm vi):cz P (Instr.index t vx vi) w p β tm r:=by
 unfold u7 at h;split at h <;> try cases h
 ·rename_i s k n;split at h <;> simp only [Ps,Pv,reduceCtorEq] at h <;> obtain ⟨rfl,rfl⟩:=h;rename_i ht;obtain ⟨rfl,hb⟩:=kc hx;obtain ⟨rfl,_⟩:=ca hi;have h0:0<=n:=hps _ (by simp);have h1:n<(s.length:Int):=hps _ (by simp);have hl:n.toNat<s.length:=by omega
  have hu:=mQ ht
  have hg:(⟨s.toArray⟩:ByteArray)[n.toNat]?=some (s.getD n.toNat 0):=by
   have hsz:n.toNat<(⟨s.toArray⟩:ByteArray).size:=by simp [ByteArray.size,hl]
   rw [getElem?_pos (⟨s.toArray⟩:ByteArray) n.toNat hsz];simp [ByteArray.getElem_eq_getElem_data,List.getD,hl]
  refine ⟨.int .u8 _,?_,rfl,?_⟩
  ·simp [Instr.index,asIntOf,PS hu,h0,hg]
  ·simp only [am]; have:=(s.getD n.toNat 0).toNat_lt; omega
 ·rename_i a b k n;split at h <;> simp only [Ps,Pv,reduceCtorEq] at h;rename_i k' xs hxs;obtain ⟨rfl,rfl⟩:=h;obtain ⟨rfl,_⟩:=ca hi;have h0:0<=n:=hps _ (by simp);have h1:n<(xs.length:Int):=hps _ (by simp);obtain ⟨e,inf,hu,hue,hinf,hsz,hint,_⟩:=qm hxs;obtain ⟨cs,rfl,hc⟩:=hx;obtain ⟨e5,hin⟩:=ot hint hc;have hx:xs[n.toNat]?=some (xs.getD n.toNat 0):=by simp [List.getD,show n.toNat<xs.length by omega]
  have hcell:cs[n.toNat]?=some (.int k' (xs.getD n.toNat 0)):=by
   have:cs.toList[n.toNat]?=some (.int k' (xs.getD n.toNat 0)):=by rw [e5,List.getElem?_map,hx]; rfl
   simpa using this
  refine ⟨.int k' _,?_,rfl,hin _ (QM hx)⟩;simp [Instr.index,asIntOf,PS hu,h0,h1,sizeOf,typeInfo,hinf,hsz,part,isAgg,PS hue,hcell]
theorem oG (mx:Bool):∀ (avs:List AV) (vs:List Value) (a:AV) (v:Value) (r:AV),Ds mx avs a=some r->a.val p β tm v->vs.length=avs.length ->
  (∀ (i:Nat) a v,avs[i]?=some a->vs[i]?=some v->a.val p β tm v)->cz P (vs.foldlM (if mx then Builtin.max2 else Builtin.min2) v) w p β tm r
 | [],vs,a,v,r,h,ha,hl,_=>by
  have:vs=[]:=PO hl;subst this;cases a <;> simp only [Ds,Ps,reduceCtorEq] at h;subst h;exact ⟨v,rfl,ha⟩
 | b::avs,vs,a,v,r,h,ha,hl,hv=>by
  match vs,hl,hv with
  | u::vs,hl,hv =>
   have h0:=hv 0 b u rfl rfl;cases a <;> (try (cases b <;> simp only [Ds,reduceCtorEq] at h; done));cases b <;> (try (simp only [Ds,reduceCtorEq] at h; done));rename_i k n k' m _ _;simp only [Ds] at h;split at h
   ·rename_i hk;subst hk;obtain ⟨rfl,hn⟩:=ca ha;obtain ⟨rfl,hm⟩:=ca h0
    have step:((if mx then Builtin.max2 else Builtin.min2) (.int k' n) (.int k' m)).run P w=.ok (.int k' (bif mx then (if n<m then m else n) else (if m<n then m else n))) w:=by
     cases mx <;> simp [Builtin.max2,Builtin.min2]
    have hr:am k' (bif mx then (if n<m then m else n) else (if m<n then m else n)):=by
     cases mx <;> simp only [PZ,PF] <;> split <;> assumption
    obtain ⟨v',e,hv'⟩:=oG mx avs vs _ (.int k' _) r h ⟨rfl,hr⟩ (by simpa using hl) (fun i a v ha hb=>hv (i+1) a v (by simpa using ha) (by simpa using hb));refine ⟨v',?_,hv'⟩;simp only [List.foldlM_cons,PR,step,PL];exact e
   ·cases h
end
def LR (P:Program) (g:TypeId->AV->AV->Option Bool) (x y:AV):List Field->Option Bool
 | []=>some true
 | f :: fs => if f.name = "_" then none else match fj P f.type with
  | some n=>if Nat.ble (f.offset+n) x.len&&Nat.ble (f.offset+n) y.len then
    (match g f.type ((x.drop f.offset).take n) ((y.drop f.offset).take n) with
     | some a=>match fs with
      | []=>some a
      | _=>(LR P g x y fs).map (a&&·)
     | none=>none)
   else none
  | none=>none
def Pd (P:Program):Nat->TypeId->AV->AV->Option Bool
 | 0,_,_,_=>none
 | d+1,t,x,y=>match P.underlying t with
  | some (.int _)=>match x,y with
   | .int k a,.int k' b=>if k=k' then some (decide (a=b)) else none
   | _,_=>none
  | some .bool=>match x,y with
   | .bool a,.bool b=>some (a == b)
   | _,_=>none
  | some .string=>match x,y with
   | .str a,.str b=>some (decide (a=b))
   | _,_=>none
  | some (.struct fs)=>match x,y with
   | .pair x1 x2,.pair y1 y2=>if P.stoodInHeld t then none else LR P (Pd P d) (.pair x1 x2) (.pair y1 y2) fs.toList
   | _,_=>none
  | _=>none
def oK (P:Program) (t:TypeId) (op:BinOp) (x y:AV):td :=
 match x,y with
 | .pair x1 x2,.pair y1 y2=>if P.eqGuardType P.depth t then none else match op,Pd P 9 t (.pair x1 x2) (.pair y1 y2) with
  | .eql,some b=>some ([],.bool b)
  | .neq,some b=>some ([],.bool (!b))
  | _,_=>none
 | _,_=>LN P t op x y
def Av (P:Program) (t:TypeId) (op:BinOp) (x y:AV):td :=
 match x,y with
 | .int k a,.int k' b=>if k=k' then match op with
   | .add=>some ([],.int k (k.wrap (a+b)))
   | .sub=>some ([],.int k (k.wrap (a - b)))
   | .mul=>some ([],.int k (k.wrap (a * b)))
   | _=>oK P t op (.int k a) (.int k' b)
  else oK P t op (.int k a) (.int k' b)
 | x,y=>oK P t op x y
def OH (lh:Nat->Option LE):Bool:=match lh 900001 with | some .dead=>true | _=>false
section
variable {P:Program} {w:World} {p:PH} {β:Nat->Value} {tm:Array Value}
theorem zV {t:TypeId} {n:Nat} (h:fj P t=some n) :
  (∃ i,P.info? t=some i/\i.size=n/\2<=n/\(isAgg t).run P w=.ok true w)\/(n=1/\(isAgg t).run P w=.ok false w):=by
 unfold fj at h;split at h
 ·cases h
 rename_i i hi;split at h
 ·rename_i fs hu;split at h
  ·injection h with h
   rename_i h2;have h2':=PN h2;exact .inl ⟨i,hi,h,by omega,by simp [isAgg,PS hu]⟩
  ·cases h
 ·rename_i k e hu;split at h
  ·injection h with h
   rename_i h2;have h2':=PN h2;exact .inl ⟨i,hi,h,by omega,by simp [isAgg,PS hu]⟩
  ·cases h
 ·rename_i d iC hd2 hu;split at h
  ·injection h with h
   refine .inr ⟨h.symm,?_⟩;cases d <;> first | exact absurd rfl (iC _) | exact absurd rfl (hd2 _ _) | simp [isAgg,PS hu]
  ·cases h
 ·cases h
theorem ut {t:TypeId} {n off:Nat} (h:fj P t=some n) {a:AV} {cs:Array Value} (ha:a.cells p β cs.toList) (hl:off+n<=a.len) :
  ∃ v,(part t cs off).run P w=.ok v w/\((a.drop off).take n).val p β tm v:=by
 have hlen:=AV.len_cells _ _ ha;have hp:=lK h;obtain ⟨h1,h2⟩:=jZ ha hp (show off+n<=cs.toList.length by omega);rcases zV (w:=w) h with ⟨i,hi,hs,h2n,hag⟩ | ⟨hn,hag⟩
 ·refine ⟨.agg (cs.extract off (off+n)),?_,?_⟩
  ·simp [part,hag,sizeOf,typeInfo,hi,hs]
  ·have:=AV.val_of_cells_agg (tm:=tm) h1 (by omega)
   have e:((cs.toList.drop off).take n).toArray=cs.extract off (off+n):=by
    apply Array.ext';simp [Array.toList_extract,List.extract_eq_take_drop]
   rwa [e] at this
 ·subst hn
  match hc:(cs.toList.drop off).take 1,h2 with
  | [v],_ =>
   rw [hc] at h1;refine ⟨v,?_,AV.val_of_cells_one h1⟩
   have:cs[off]?=some v:=by
    have h3:((cs.toList.drop off).take 1)[0]?=some v:=by rw [hc]; rfl
    rw [List.getElem?_take] at h3;simpa using h3
   simp [part,hag,this]
theorem vl {g:TypeId->AV->AV->Option Bool} {D:Nat} {cx cy:Array Value} {x y:AV} (hx:x.cells p β cx.toList) (hy:y.cells p β cy.toList)
  (hg:∀ t a b r va vb,g t a b=some r->a.val p β tm va->b.val p β tm vb->(Op.equalIn D t va vb).run P w=.ok r w) :
  ∀ (fs:List Field) (r:Bool),LR P g x y fs=some r->(Op.eqFields D cx cy fs).run P w=.ok r w
 | [],r,h=>by
  simp only [LR,Ps] at h;subst h;simp [Op.eqFields]
 | f::fs,r,h=>by
  unfold LR at h;split at h
  ·cases h
  rename_i hnm;split at h
  case h_2=>cases h
  rename_i n hn;split at h
  case isFalse=>cases h
  rename_i hle;simp only [Px] at hle;obtain ⟨vx,ex,hvx⟩:=ut (w:=w) (tm:=tm) hn hx (PN hle.1);obtain ⟨vy,ey,hvy⟩:=ut (w:=w) (tm:=tm) hn hy (PN hle.2);split at h
  case h_2=>cases h
  rename_i a ha;have e:=hg _ _ _ _ _ _ ha hvx hvy
  have key:∀ (s:Bool),(Op.eqFields D cx cy fs).run P w=.ok s w->(Op.eqFields D cx cy (f::fs)).run P w=.ok (a&&s) w:=by
   intro s hs;simp only [Op.eqFields,ne_eq,hnm,not_false_eq_true,if_true,PR,ex,ey,e,PL];cases a
   ·simp
   ·simpa using hs
  split at h
  ·injection h with h
   subst h;have:=key true (by simp [Op.eqFields]);simpa using this
  ·obtain ⟨s,hs,rfl⟩:=Py.1 h;exact key s (vl hx hy hg fs s hs)
theorem ri:∀ (d:Nat) (D:Nat) (_:d<=D) (t:TypeId) (a b:AV) (r:Bool) (va vb:Value),Pd P d t a b=some r->a.val p β tm va->b.val p β tm vb->(Op.equalIn D t va vb).run P w=.ok r w
 | 0,_,_,_,_,_,_,_,_,h,_,_=>by cases h
 | d+1,0,hD,_,_,_,_,_,_,_,_,_=>by omega
 | d+1,D+1,hD,t,a,b,r,va,vb,h,ha,hb=>by
  unfold Pd at h;split at h
  ·rename_i k hu;split at h
   ·rename_i k1 n1 k2 n2;split at h
    ·rename_i hk;subst hk;injection h with h
     subst h;obtain ⟨rfl,_⟩:=ca ha;obtain ⟨rfl,_⟩:=ca hb;rw [run_equalIn_int w D t k1 k n1 n2 hu];by_cases he:n1=n2 <;> simp [he]
    ·cases h
   ·cases h
  ·rename_i hu;split at h
   ·injection h with h
    subst h;rw [kX ha,kX hb];exact run_equalIn_bool' w D t _ _ hu
   ·cases h
  ·rename_i hu;split at h
   ·rename_i s1 s2;injection h with h
    subst h;obtain ⟨rfl,_⟩:=kc ha;obtain ⟨rfl,_⟩:=kc hb;rw [run_equalIn_string w D t _ _ hu];rw [<- beq_toListBytes];by_cases he:s1=s2
    ·subst he
     have:((⟨s1.toArray⟩:ByteArray) == ⟨s1.toArray⟩)=true:=by
      rw [beq_toListBytes]; simp
     rw [this]; simp
    ·have hne:¬ ((⟨s1.toArray⟩:ByteArray)=⟨s2.toArray⟩):=fun e=>he (MG.1 e)
     have:((⟨s1.toArray⟩:ByteArray) == ⟨s2.toArray⟩)=false:=by
      rw [beq_toListBytes,ByteArray.toList_eq,ByteArray.toList_eq];simpa using he
     rw [this]; simp [he]
   ·cases h
  ·rename_i fs hu;split at h
   ·rename_i x1 x2 y1 y2;split at h
    ·cases h
    rename_i hst;obtain ⟨cx,rfl,hcx⟩:=ha;obtain ⟨cy,rfl,hcy⟩:=hb;have hf:P.fieldsOf t=fs:=by simp [Program.fieldsOf,hu]
    rw [run_equalIn_agg w D t cx cy (by rw [hf]; exact hu) (by simpa using hst),hf];exact vl hcx hcy (fun t a b r va vb h1 h2 h3=>ri d D (by omega) t a b r va vb h1 h2 h3) fs.toList r h
   ·cases h
  ·cases h
theorem jy {op:BinOp} {t:TypeId} {ox oy:Operand} {x y:AV} {vx vy:Value} {ps:List Prop} {r:AV} (h:oK P t op x y=some (ps,r)) (hps:∀ q∈ps,q)
  (hx:x.val p β tm vx) (hy:y.val p β tm vy) :
  cz P (do eqGuard op t ox oy vx vy; binOp op t vx vy) w p β tm r:=by
 unfold oK at h;split at h
 ·rename_i x1 x2 y1 y2;split at h
  ·cases h
  rename_i hg;have hg:P.eqGuardType P.depth t=false:=by simpa using hg
  have hx':=hx;have hy':=hy;obtain ⟨cx,rfl,hcx⟩:=hx;obtain ⟨cy,rfl,hcy⟩:=hy;split at h
  ·rename_i b hb;simp only [Ps,Pv] at h;obtain ⟨rfl,rfl⟩:=h;refine ⟨.bool b,?_,rfl⟩;have:=ri (w:=w) (tm:=tm) 9 10000 (by omega) t _ _ b _ _ hb hx' hy';simp only [PR,run_eqGuard_agg w _ t ox oy cx cy hg,PL,run_eql_struct,this]
  ·rename_i b hb;simp only [Ps,Pv] at h;obtain ⟨rfl,rfl⟩:=h;refine ⟨.bool !b,?_,rfl⟩;have:=ri (w:=w) (tm:=tm) 9 10000 (by omega) t _ _ b _ _ hb hx' hy';simp only [PR,run_eqGuard_agg w _ t ox oy cx cy hg,PL,run_neq_struct,this]
  ·cases h
 ·exact Dw h hps hx hy
theorem Au {op:BinOp} {t:TypeId} {ox oy:Operand} {x y:AV} {vx vy:Value} {ps:List Prop} {r:AV} (h:Av P t op x y=some (ps,r)) (hps:∀ q∈ps,q)
  (hx:x.val p β tm vx) (hy:y.val p β tm vy) :
  cz P (do eqGuard op t ox oy vx vy; binOp op t vx vy) w p β tm r:=by
 unfold Av at h;split at h
 ·rename_i k a k' b;split at h
  ·rename_i hk;subst hk;split at h
   case h_4=>exact jy h hps hx hy
   all_goals
    simp only [Ps,Pv] at h;obtain ⟨rfl,rfl⟩:=h;obtain ⟨rfl,ha⟩:=ca hx;obtain ⟨rfl,hb⟩:=ca hy;exact ⟨_,by simp [eqGuard,binOp,Op.intArith,go_sem],rfl,pQ _ _⟩
  ·exact jy h hps hx hy
 ·exact jy h hps hx hy
theorem Aw {op:BinOp} {t:TypeId} {ox oy:Operand} {x y:AV} {vx vy:Value} {ps:List Prop} {r:AV} {f:Bool} (h:(if f=true then Av P t op x y else oK P t op x y)=some (ps,r)) (hps:∀ q∈ps,q)
  (hx:x.val p β tm vx) (hy:y.val p β tm vy) :
  cz P (do eqGuard op t ox oy vx vy; binOp op t vx vy) w p β tm r:=by
 split at h
 ·exact Au h hps hx hy
 ·exact jy h hps hx hy
end
def x7 (P:Program) (lh:Nat->Option LE) (t:TypeId):AV->Option (IntKind×((V:Ty)×List (Int×V.den)))
 | .mp d=>match lh d with
  | some (.mapp k V m)=>some (k,⟨V,m⟩)
  | some (.frozm k V m)=>some (k,⟨V,m⟩)
  | _=>none
 | .md k V m=>some (k,⟨V,m⟩)
 | .nilm=>match wc P 12 t with
  | some (.map k V)=>some (k,⟨V,[]⟩)
  | _=>none
 | _=>none
def Value.isAgg:Value->Bool
 | .agg _=>true
 | _=>false
def DZ (P:Program) (e:TypeId) (T:Ty):Option T.den :=
 match P.info? e with
 | none=>none
 | some i=>match i.zero with
  | none=>none
  | some z=>if Value.isAgg z == T.isPair then AV.toTy false (fun _=>none) T (AV.ofCells z.cells.toList) else none
def oo (P:Program) (t:TypeId):Option (IntKind×TypeId×TypeId) :=
 match P.underlying t with
 | some (.map kt e)=>match P.underlying kt with
  | some (.int k)=>some (k,kt,e)
  | _=>none
 | _=>none
def oH (P:Program) (lh:Nat->Option LE) (t:TypeId) (m x:AV) (ok:Bool):td :=
 match oo P t,m,x with
 | some (k,_,_),.mp d,.int k'' n=>match lh d with
  | some (.mapo k' _ _ x0 c)=>if k'=k/\k''=k/\ok=false then some ([n=x0],c) else none
  | _=>none
 | _,_,_=>none
def rb (P:Program) (lh:Nat->Option LE) (t:TypeId) (m x:AV) (ok:Bool):td :=
 match oo P t,x7 P lh t m,x with
 | some (k,_,e),some (k',⟨V,l⟩),.int k'' n=>if k'=k/\k''=k then match DZ P e V with
   | some z=>some ([],if ok then .tup (V.av ((aC l n).getD z)) (.tup (.bool (aC l n).isSome) .tnil) else V.av ((aC l n).getD z))
   | none=>none
  else none
 | _,_,_=>none
def ve (P:Program) (lh:Nat->Option LE) (t:TypeId) (m x:AV) (ok:Bool):td :=
 match rb P lh t m x ok with
 | some r=>some r
 | none=>oH P lh t m x ok
section
variable {M:Nat->Prop} {p0:PH} {w0:World} {S:St} {tm:Array Value} {w:World} {p:PH} {β:Nat->Value} {P:Program}
theorem iX {t kt e:TypeId} {k:IntKind} (h:oo P t=some (k,kt,e)):P.underlying t=some (.map kt e)/\P.underlying kt=some (.int k):=by
 unfold oo at h;split at h <;> try cases h
 rename_i kt' e' h1;split at h <;> simp only [Ps,Pv,reduceCtorEq] at h;rename_i k' h2;obtain ⟨rfl,rfl,rfl⟩:=h;exact ⟨h1,h2⟩
theorem jw {α:Type} {k:IntKind} {h:α->Value->Prop} {n:Int} (hn:am k n):∀ (m:List (Int×α)) (es:List MapEntry) (i:Nat),cq k h m es ->
  (aC m n=none/\Instr.findNow (.int k) (.int k n) es i=some none/\∀ y v b,h y v->cq k h (cR m n y) (es++[{ key:=.int k n,val:=v,born:=b }])) \/
  ∃ x j e,aC m n=some x/\Instr.findNow (.int k) (.int k n) es i=some (some (i+j,e.val))/\es[j]?=some e/\e.key=.int k n/\h x e.val /\
   ∀ y v,h y v->cq k h (cR m n y) (es.modify j fun e=>{ e with key:=.int k n,val:=v })
 | [],es,i,hm=>by
  have:es=[]:=hm;subst this;exact .inl ⟨rfl,rfl,fun y v b hy=>⟨_,[],rfl,rfl,hn,hy,rfl⟩⟩
 | x::m,es,i,⟨e,es',he,h1,h2,h3,h4⟩=>by
  subst he;by_cases hx:x.1=n
  ·subst hx;refine .inr ⟨x.2,0,e,by simp [aC],by simp [Instr.findNow,Instr.sameNow,h1],rfl,h1,h3,fun y v hy=>?_⟩;simp only [cR,if_true];exact ⟨_,es',rfl,rfl,hn,hy,h4⟩
  ·have hs:Instr.sameNow (.int k) (.int k n) e.key=some false:=by
    rw [h1];simp only [Instr.sameNow,if_true,Ps,beq_eq_false_iff_ne];exact fun e=>hx e.symm
   rcases jw hn m es' (i+1) h4 with ⟨g1,g2,g3⟩ | ⟨y,j,e',g1,g2,g3,g4,g5,g6⟩
   ·refine .inl ⟨by simp only [aC,if_neg hx,g1],by simp only [Instr.findNow,hs,g2],fun y v b hy=>?_⟩;simp only [cR,if_neg hx,Qs];exact ⟨e,_,rfl,h1,h2,h3,g3 y v b hy⟩
   ·refine .inr ⟨y,j+1,e',by simp only [aC,if_neg hx,g1],?_,by simpa using g3,g4,g5,fun y v hy=>?_⟩
    ·simp only [Instr.findNow,hs,g2];congr 3;omega
    ·simp only [cR,if_neg hx];exact ⟨e,_,by simp,h1,h2,h3,g6 y v hy⟩
theorem dn {kt:TypeId} {k:IntKind} {v:Value} {es:List MapEntry} {r:Option (Nat×Value)} (hd:P.underlying kt=some (.int k)) (h:Instr.findNow (.int k) v es 0=some r):(Instr.findKey kt v es).run P w=.ok r w :=
 MapKept.run_findKey hd h
theorem cV {kt:TypeId} {k:IntKind} {n:Int} (hd:P.underlying kt=some (.int k)) (b:Bool):(Instr.checkKey b 10000 kt (.int k n)).run P w=.ok () w :=
 MapKept.run_checkKey hd (by simp [MapKept.IsKey]) b 9999
theorem yA (hS:SatB M p0 w0 S tm w p β) {e:TypeId} {V:Ty} {z:V.den} (h:DZ P e V=some z):∃ v,(zeroValue e).run P w=.ok v w/\V.vholds p z v:=by
 unfold DZ at h;split at h <;> try cases h
 rename_i i hi;split at h <;> try cases h
 rename_i v hv;split at h <;> try cases h
 rename_i hag;refine ⟨v,by simp [zeroValue,typeInfo,hi,hv],?_⟩
 have hS0:SatB M p0 w0 { S with lh:=fun _=>none } tm w p β :=
  ⟨hS.keep,hS.agr,hS.old,hS.size,fun d e h=>(by cases h),fun d e b h=>(by cases h),fun d d' e e' b h=>(by cases h),hS.env⟩
 have hne:v.cells.toList≠[]:=by
  intro e0;rw [e0] at h;simp only [AV.ofCells] at h;rw [kY] at h;cases h
 have hh:=be hS0 (rows:=false) V _ z _ h (cC _ hne);simp only [PG,P5] at hh;cases v with
 | agg cs =>
  cases V <;> simp [Value.isAgg,Ty.isPair] at hag;exact ⟨cs,rfl,hh⟩
 | _ =>
  cases V <;> simp [Value.isAgg,Ty.isPair] at hag <;> exact hh
theorem C7 (hS:SatB M p0 w0 S tm w p β) {t:TypeId} {a:AV} {va:Value} {k:IntKind} {V:Ty} {m:List (Int×V.den)} (h:x7 P S.lh t a=some (k,⟨V,m⟩)) (ha:a.val p β tm va) :
  (va=.map none/\m=[])\/∃ r es clock,va=.map (some r)/\w.heap[r]?=some (.map es clock)/\cq k (fun x v=>fv V (V.holds p x) v) m es.toList:=by
 have dat:∀ {v:Value},(Ty.map k V).holds p m [v]->(v=.map none/\m=[])\/∃ r es clock,v=.map (some r)/\w.heap[r]?=some (.map es clock)/\cq k (fun x v=>fv V (V.holds p x) v) m es.toList:=by
  rintro v (⟨e,h0⟩ | ⟨r,es,c,e,hp,hm⟩)
  ·injection e with e _
   exact .inl ⟨e,h0⟩
  ·injection e with e _
   exact .inr ⟨r,es,c,e,hS.agr r _ hp,hm⟩
 cases a <;> (first | (simp [x7] at h; done) | skip)
 ·rename_i d;have ha':va=β d:=ha;subst ha';simp only [x7] at h;split at h <;> simp only [Ps,Pv,reduceCtorEq] at h
  ·rename_i hd;obtain ⟨rfl,h⟩:=h;injection h with h1 h2
   subst h1;have h2:=eq_of_heq h2;subst h2;obtain ⟨r,es,clock,e1,e2,_,e4⟩:=hS.lhs d _ hd;exact .inr ⟨r,es,clock,e1,e2,e4⟩
  ·rename_i hd;obtain ⟨rfl,h⟩:=h;injection h with h1 h2
   subst h1;have h2:=eq_of_heq h2;subst h2;exact dat (hS.lhs d _ hd)
 ·simp only [x7,Ps,Pv] at h;obtain ⟨rfl,h⟩:=h;injection h with h1 h2
  subst h1;have h2:=eq_of_heq h2;subst h2;exact dat ha
 ·simp only [x7] at h;split at h <;> simp only [Ps,Pv,reduceCtorEq] at h;obtain ⟨_,h⟩:=h;injection h with h1 h2
  subst h1;have h2:=eq_of_heq h2;subst h2;exact .inl ⟨ha,rfl⟩
theorem jG {p:PH} {T:Ty} {x:T.den} {v:Value}:fv T (T.holds p x) v ↔ T.vholds p x v:=by
 cases T <;> simp [fv,Ty.isPair,Ty.vholds]
end
def AV.noGd:AV->Bool
 | .gd ..=>false
 | _=>true
def AV.opn (ctx:List (Nat×Bool)):AV->AV
 | .gd g w a=>if ctx.any (fun c=>Nat.beq c.1 g&&(c.2 == w)) then a.opn ctx else .any
 | a=>a
def St.val (S:St):Operand->AV
 | .tmp t=>S.env t
 | .const v=>AV.ofConst v
 | .func f=>.fn f [] []
 | .global _=>.any
def St.look (S:St) (ctx:List (Nat×Bool)) (x:Operand):AV:=(S.val x).opn ctx
def gB (ctx:List (Nat×Bool)) (tm:Array Value):Prop:=∀ c∈ctx,tm.getD c.1 undef=.bool c.2
def dL (S:St):Nat->Nat->Bool->List (Nat×Bool)
 | 0,g,w=>[(g,w)]
 | n+1,g,w=>(g,w)::(match S.env g with | .gd g2 w2 _=>dL S n g2 w2 | _=>[])
def fb (S:St) (ctx:List (Nat×Bool)):List (Nat×Bool)->List Prop
 | []=>[]
 | (g,w)::cs=>match (S.env g).opn ctx with
  | .bool b=>(b=w)::fb S ctx cs
  | _=>fb S ctx cs
def Ni:List Prop->Prop->Prop
 | [],q=>q
 | p::ps,q=>p->Ni ps q
def RT.isDat:RT->Bool
 | .dat _=>true
 | _=>false
def RT.av (name:Nat):(R:RT)->R.den->AV
 | .dat T,x=>T.av x
 | .own _ _,_=>.own name
 | .map _ _,_=>.mp name
def bv (d k:Nat):Nat:=d+1000000 * k
def oc (d:Nat):Nat->(Rs:List RT)->eB Rs->AV
 | _,[],_=>.tnil
 | k,[R],x=>.tup (R.av (bv d k) x) .tnil
 | k,R::U::Rs,x=>.tup (R.av (bv d k) x.1) (oc d (k+1) (U::Rs) x.2)
def GC (d:Nat) (Rs:List RT) (x:eB Rs):AV :=
 match Rs,x with
 | [R],x=>R.av d x
 | Rs,x=>oc d 0 Rs x
def RT.put (R:RT) (x:R.den) (name:Nat) (S:St):St :=
 match R,x with
 | .dat _,_=>S
 | .own e T,xs=>S.fresh name (.row e T xs)
 | .map k V,m=>S.fresh name (.mapp k V m)
def lf (d:Nat):Nat->(Rs:List RT)->eB Rs->St->St
 | _,[],_,S=>S
 | k,[R],x,S=>R.put x (bv d k) S
 | k,R::U::Rs,x,S=>lf d (k+1) (U::Rs) x.2 (R.put x.1 (bv d k) S)
def DF:(A:Ty)->(Ts:List Ty)->A.den->gi Ts->gi (A::Ts)
 | _,[],x,_=>x
 | _,_::_,x,y=>(x,y)
def Hl (cv:(T:Ty)->AV->Option T.den) (A B:Ty) (s:Spec) (caps:List AV):Option ((A.den->Prop)×(A.den->B.den)) :=
 match s with
 | { Ts:=A'::refs,Rs:=[.dat B'],al:=_,pre:=pre,F:=F } =>
  if h:A'=A/\B'=B/\A.isNil=false then match qw cv refs caps with
   | some c=>some (fun x=>pre (DF A' refs (h.1 ▸ x) c),fun x=>h.2.1 ▸ F (DF A' refs (h.1 ▸ x) c))
   | none=>none
  else none
 | _=>none
def AV.toTyB (P:Program) (ss:Specs) (lh:Nat->Option LE) (T:Ty) (a:AV):Option T.den :=
 match T,a with
 | .ref (.fn A B),.loc d 0=>match lh d with
  | some (.cells (.fn f [] c2))=>if cT P f then match ss f with
   | some s=>Hl (fun T a=>a.toTy true lh T) A B s (c2.map fun x=>.loc x.1 x.2)
   | none=>none
   else none
  | _=>none
 | T,a=>a.toTy true lh T
def AV.toTyC (P:Program) (ss:Specs) (lh:Nat->Option LE) (rows:Bool) (T:Ty) (a:AV):Option T.den :=
 match T,a with
 | .fn A B,.fn f [] c2=>if rows&&cT P f then match ss f with
   | some s=>Hl (AV.toTyB P ss lh) A B s (c2.map fun x=>.loc x.1 x.2)
   | none=>none
  else none
 | T,a=>a.toTy rows lh T
def mX (P:Program) (ss:Specs) (lh:Nat->Option LE) (f:FuncId) (avs:List AV):Option (Prop×((Rs:List RT)×eB Rs)) :=
 if cT P f then match ss f with
  | none=>none
  | some s=>match qw (AV.toTyC P ss lh (!s.al)) s.Ts avs with
   | none=>none
   | some x=>some (s.pre x,⟨s.Rs,s.F x⟩)
 else none
def tE (P:Program) (t:TypeId):Bool:=match P.underlying t with | some (.struct fs)=>vJ P fs | some (.array _ e)=>(P.info? e).isSome | _=>false
def nQ (P:Program) (ss:Specs) (S:St) (ctx:List (Nat×Bool)) (o:Oper):td :=
 match o.op with
 | .move x=>some ([],S.look ctx x)
 | .assign x=>some ([],S.look ctx x)
 | .binOp op t x y _=>if OH S.lh=true then Av P t op (S.look ctx x) (S.look ctx y) else oK P t op (S.look ctx x) (S.look ctx y)
 | .unOp op _ x=>Oq op (S.look ctx x)
 | .convert src dst x=>if (P.underlying src).isSome then FU P dst (S.look ctx x) else none
 | .load t a=>FT P S.lh t (S.look ctx a)
 | .fieldAddr s a i=>kF P s (S.look ctx a) i
 | .field s a i=>Ar P s (S.look ctx a) i
 | .indexAddr t a i=>mW P S.lh t (S.look ctx a) (S.look ctx i)
 | .index t a i=>u7 P t (S.look ctx a) (S.look ctx i)
 | .slice t x lo hi none=>An P S.lh t (S.look ctx x) (lo.map (S.look ctx)) (hi.map (S.look ctx))
 | .extract a n=>((S.look ctx a).nth n).map fun r=>([],r)
 | .build t parts=>if tE P t then nq P S.lh t parts.toList (S.look ctx) else none
 | .pick (.tmp g) a b=>match S.look ctx (.tmp g),S.look ((g,true)::ctx) a,S.look ((g,false)::ctx) b with
  | .bool c,.bool x,.bool y=>some ([],.bool (match a,b with
   | .const (.bool true),_=>c||y
   | _,.const (.bool false)=>c&&x
   | _,_=>bif c then x else y))
  | _,_,_=>none
 | .call { callee:=.builtin .len,args,argTypes }=>match args.toList,argTypes.toList with
  | [x],[t]=>LL P S.lh t (S.look ctx x)
  | _,_=>none
 | .call { callee:=.builtin .min,args,.. }=>match args.toList with
  | x::xs=>(Ds false (xs.map (S.look ctx)) (S.look ctx x)).map fun r=>([],r)
  | []=>none
 | .call { callee:=.builtin .max,args,.. }=>match args.toList with
  | x::xs=>(Ds true (xs.map (S.look ctx)) (S.look ctx x)).map fun r=>([],r)
  | []=>none
 | .call { callee:=.value (.func f),args,.. }=>match mX P ss S.lh f (args.toList.map (S.look ctx)) with
  | some (q,⟨Rs,x⟩)=>if Rs.all RT.isDat then some ([q],GC 0 Rs x) else none
  | none=>none
 | .call { callee:=.value (.tmp t),args,.. }=>match S.look ctx (.tmp t) with
  | .fd A B g=>if A.isNil then none else match args.toList with
   | [x]=>match (S.look ctx x).toTy false S.lh A with
    | some y=>some ([g.1 y],B.av (g.2 y))
    | none=>none
   | _=>none
  | _=>none
 | .lookup t m x ok=>ve P S.lh t (S.look ctx m) (S.look ctx x) ok
 | .entry x=>match S.look ctx x with
  | .loc d 0=>match S.lh d with
   | some (.iter k V _ (some y))=>some ([],.tup (.int k y.1) (.tup (V.av y.2) .tnil))
   | _=>none
  | _=>none
 | .nilCheck x=>match S.look ctx x with
  | .loc d off=>some ([],.loc d off)
  | .pt T y off=>some ([],.pt T y off)
  | _=>none
 | .makeFunc (.func f) first caps=>match qy (first.toList.map (S.look ctx)),qy (caps.toList.map (S.look ctx)) with
  | some c1,some c2=>some ([],.fn f c1 c2)
  | _,_=>none
 | _=>none
section
variable {M:Nat->Prop} {p0:PH} {w0:World} {S:St} {w:World} {p:PH} {β:Nat->Value} {P:Program} {a:Act}
theorem cZ {ctx:List (Nat×Bool)} {tm:Array Value} (h:gB ctx tm):∀ (x:AV) (v:Value),x.val p β tm v->(x.opn ctx).val p β tm v:=by
 intro x
 induction x with
 | gd g w x ih =>
  intro v hv;simp only [AV.opn];split
  ·rename_i hc;obtain ⟨c,hm,he⟩:=Qt.1 hc;simp only [Px,RP] at he;have hg:=Pw he.1;have:=h c hm;rw [hg,he.2] at this;rcases hv with ⟨_,hv⟩ | ⟨hne,_⟩
   ·exact ih v hv
   ·exact absurd this hne
  ·trivial
 | _=>intro v hv; exact hv
theorem aU (hS:SatB M p0 w0 S a.tmps w p β) {ctx:List (Nat×Bool)} (hc:gB ctx a.tmps) (x:Operand):(S.look ctx x).val p β a.tmps (a.eval x):=by
 unfold St.look;cases x with
 | tmp t=>exact cZ hc _ _ (hS.env t)
 | const v=>exact cZ hc _ _ (C0 v)
 | global g=>exact cZ hc _ _ trivial
 | func f=>exact cZ hc _ _ ⟨#[],#[],rfl,rfl,rfl⟩
theorem cm (ctx:List (Nat×Bool)):∀ (x:AV),(x.opn ctx).noGd=true:=by
 intro x
 induction x with
 | gd g w x ih=>simp only [AV.opn]; split; exact ih; rfl
 | _=>rfl
theorem fe {x:AV} (h:x.noGd=true) {tm tm':Array Value} {v:Value}:x.val p β tm v->x.val p β tm' v:=by
 cases x <;> first | (cases h; done) | exact fun h=>h
def VOK (M:Nat->Prop) (p0:PH) (w0:World) (S:St) (P:Program) (o:Oper) (a:Act) (w:World) (p:PH) (β:Nat->Value) (r:AV):Prop :=
 ∀ (K:Act->World->Prop) (Q:Exit->Act->World->Prop),(∀ v w' p',SatB M p0 w0 S a.tmps w' p' β->PH.le p p'->r.val p' β a.tmps v->K (a.put o.dst v) w')->o.wp P a w K Q
theorem VOK.of_yields (hS:SatB M p0 w0 S a.tmps w p β) {o:Oper} {r:AV} {s:Sem Value} (hs:execOp a.eval o=(do pure (.value (<- s)))) (h:cz P s w p β a.tmps r):VOK M p0 w0 S P o a w p β r:=by
 intro K Q hK;obtain ⟨v,e,hv⟩:=h;unfold Oper.wp;rw [hs];simp only [PR,e,PL,P2];exact hK v w p hS (PH.le.refl p) hv
theorem VOK.of_run (hS:SatB M p0 w0 S a.tmps w p β) {o:Oper} {r:AV} {v:Value} (hs:(execOp a.eval o).run P w=.ok (.value v) w) (h:r.val p β a.tmps v):VOK M p0 w0 S P o a w p β r:=by
 intro K Q hK;unfold Oper.wp;rw [hs];exact hK v w p hS (PH.le.refl p) h
theorem eV (p q:PH):PH.le p (p.union q):=by
 intro b cs h;simp [PH.union,h]
theorem iN {q:PH} (hp:∀ b cs,p b=some cs->b<w.heap.size) (hq:∀ b cs,q b=some cs->w.heap.size<=b):PH.le q (p.union q):=by
 intro b cs h;have h1:=hq b cs h
 have:p b=none:=by
  cases hpb:p b with
  | none=>rfl
  | some c=>have:=hp b c hpb; omega
 simp [PH.union,this,h]
theorem jk {q:PH} {w':World} (hp:Agrees p w') (hq:Agrees q w'):Agrees (p.union q) w':=by
 intro b cs h;unfold PH.union at h;split at h
 ·rename_i c hc;injection h with h
  subst h;exact hp b _ hc
 ·exact hq b cs h
theorem ed {x:AV} {v:Value} (hp:∀ y z,x≠.pair y z) (h:x.cells p β [v]):x.val1 p β v:=by
 obtain ⟨v',e,hv⟩:=(AV.cells_leaf x hp _).1 h;injection e with e _
 subst e;exact (AV.val1_leaf x hp _).2 hv
theorem dG {T:Ty} {x:T.den} {v:Value} {tm:Array Value} (h:T.vholds p x v):(T.av x).val1 p β v:=by
 cases T with
 | pair A B =>
  obtain ⟨cs,rfl,hc⟩:=h;have h1:=Ty.av_cells (p:=p) (β:=β) (Ty.pair A B) x cs.toList hc;have h2:=Ty.holds_length _ _ _ hc;have h3:=AV.val_of_cells_agg (tm:=tm) h1 (by have:=Ty.size_pos A; have:=Ty.size_pos B; rw [h2]; simp [Ty.size]; omega);have e:((cs.toList).toArray)=cs:=by simp
  rw [e] at h3
  have:∃ y z,(Ty.pair A B).av x=.pair y z:=by
   simp only [Ty.av];have:∀ (a b:AV),∃ y z,a.app b=.pair y z:=by intro a b; cases a <;> exact ⟨_,_,rfl⟩
   exact this _ _
  obtain ⟨y,z,e2⟩:=this;rw [e2] at h3 |-;exact h3
 | int k=>exact ed (by intro x y e; cases e) (Ty.av_cells (.int k) x [v] h)
 | bool=>exact ed (p:=p) (by intro x y e; cases e) (Ty.av_cells .bool x [v] h)
 | str=>exact ed (p:=p) (by intro x y e; cases e) (Ty.av_cells .str x [v] h)
 | arr T=>exact ed (by intro x y e; cases e) (Ty.av_cells (.arr T) x [v] h)
 | nil=>exact ed (p:=p) (by intro x y e; cases e) (Ty.av_cells .nil x [v] h)
 | ref T=>exact ed (by intro x y e; cases e) (Ty.av_cells (.ref T) x [v] h)
 | fn A B=>exact ed (by intro x y e; cases e) (Ty.av_cells (.fn A B) x [v] h)
 | map k V=>exact ed (by intro x y e; cases e) (Ty.av_cells (.map k V) x [v] h)
theorem sP {tm:Array Value} (hS:SatB M p0 w0 S tm w p β) {t:TypeId} {m x:AV} {ok:Bool} {vm vx:Value} {ps:List Prop} {r:AV} (h:rb P S.lh t m x ok=some (ps,r))
  (hm:m.val p β tm vm) (hx:x.val p β tm vx):cz P (Instr.lookup t vm vx ok) w p β tm r:=by
 unfold rb at h;split at h <;> try cases h
 rename_i k kt e k' V l k'' n hk hmo;obtain ⟨hu,hku⟩:=iX hk;obtain ⟨rfl,hn⟩:=ca hx;split at h <;> try cases h
 rename_i hkk;obtain ⟨rfl,rfl⟩:=hkk;split at h <;> simp only [Ps,Pv,reduceCtorEq] at h;rename_i z hz;obtain ⟨rfl,rfl⟩:=h;obtain ⟨v0,hzr,hzv⟩:=yA (w:=w) hS hz
 have out:∀ (y:V.den) (v:Value) (b:Bool),V.vholds p y v->(Instr.lookup t vm (.int k'' n) ok).run P w=.ok (if ok then .tuple #[v,.bool b] else v) w ->
   cz P (Instr.lookup t vm (.int k'' n) ok) w p β tm (if ok then .tup (V.av y) (.tup (.bool b) .tnil) else V.av y):=by
  intro y v b hy hrun;refine ⟨_,hrun,?_⟩;have h1:=dG (β:=β) (tm:=tm) hy;cases ok
  ·exact AV.val_of_val1 h1
  ·exact ⟨[v,.bool b],rfl,h1,rfl,trivial⟩
 rcases C7 hS hmo hm with ⟨rfl,rfl⟩ | ⟨g,es,clock,rfl,hg,hh⟩
 ·refine out z v0 false hzv ?_;simp [Instr.lookup,PS hu,cV hku,dn hku (v:=.int k'' n) (es:=[]) (r:=none) rfl,hzr]
 ·rcases jw hn l es.toList 0 hh with ⟨g1,g2,_⟩ | ⟨y,j,e0,g1,g2,g3,g4,g5,_⟩
  ·rw [g1];refine out z v0 false hzv ?_;simp [Instr.lookup,PS hu,Rb hg,cV hku,dn hku g2,hzr]
  ·rw [g1];refine out y e0.val true (jG.1 g5) ?_;simp [Instr.lookup,PS hu,Rb hg,cV hku,dn hku g2]
theorem val_of_one {tm:Array Value}:∀ (a:AV) (v:Value),a.one p β v->a.val p β tm v:=by
 intro a v h;cases a <;> first | exact h | exact h.elim
theorem rc {tm:Array Value} (hS:SatB M p0 w0 S tm w p β) {t:TypeId} {m x:AV} {ok:Bool} {vm vx:Value} {ps:List Prop} {r:AV} (h:oH P S.lh t m x ok=some (ps,r)) (hps:∀ q∈ps,q)
  (hm:m.val p β tm vm) (hx:x.val p β tm vx):cz P (Instr.lookup t vm vx ok) w p β tm r:=by
 unfold oH at h;split at h <;> try cases h
 rename_i k kt e d k'' n hk;obtain ⟨hu,hku⟩:=iX hk;obtain ⟨rfl,hn⟩:=ca hx;split at h <;> try cases h
 rename_i k' V l x0 c hd;split at h <;> simp only [Ps,Pv,reduceCtorEq] at h;rename_i hkk;obtain ⟨rfl,rfl,rfl⟩:=hkk;obtain ⟨rfl,rfl⟩:=h;have hnx:n=x0:=hps _ (by simp);subst hnx;obtain ⟨g,es,clock,g1,g2,g3,g4,g5⟩:=hS.lhs d _ hd
 have hme:vm=.map (some g):=by
  have h9:vm=β d:=hm;rw [h9,g1]
 subst hme;rcases jw hn l es.toList 0 g5 with ⟨q1,_,_⟩ | ⟨y,j,e0,q1,q2,q3,q4,q5,_⟩
 ·rw [q1] at g4; cases g4.1
 ·rw [q1] at g4;have g4:=QJ g4.1;subst g4;refine ⟨e0.val,?_,val_of_one _ _ q5⟩;simp [Instr.lookup,PS hu,Rb g2,cV hku,dn hku q2]
theorem vd {tm:Array Value} (hS:SatB M p0 w0 S tm w p β) {t:TypeId} {m x:AV} {ok:Bool} {vm vx:Value} {ps:List Prop} {r:AV} (h:ve P S.lh t m x ok=some (ps,r)) (hps:∀ q∈ps,q)
  (hm:m.val p β tm vm) (hx:x.val p β tm vx):cz P (Instr.lookup t vm vx ok) w p β tm r:=by
 unfold ve at h;split at h
 ·rename_i h1;injection h with h
  subst h;exact sP hS h1 hm hx
 ·exact rc hS h hps hm hx
end
section
variable {M:Nat->Prop} {p0:PH} {w0:World} {S:St} {w:World} {p:PH} {β:Nat->Value} {P:Program} {a:Act}
theorem wT {f : FuncId} (h : cT P f = true) : ∃ fn, P.funcs[f]? = some fn ∧ (fn.name == "runtime.NumGoroutine") = false ∧ fn.body.isNone = false := by
 unfold cT at h;split at h
 ·rename_i fn hf;simp only [Px,PX] at h;refine ⟨fn,hf,h.1,?_⟩;have:=h.2;cases hb:fn.body
  ·rw [hb] at this; cases this
  ·rfl
 ·cases h
theorem oY {f:FuncId} (h:cT P f=true) (args:Array Value):(callFunc f args).run P w=.ok (.enter f args) w:=by
 obtain ⟨fn,hf,hn,hb⟩:=wT h;simp only [callFunc,PR,Rd,PL,hf,hn,hb,PG,P5,P2]
theorem mA {f:FuncId} (h:cT P f=true) {o:Oper} {args:Array Operand} {ts:Array TypeId} (ho:o.op=.call { callee:=.value (.func f),args,argTypes:=ts }) :
  (execOp a.eval o).run P w=.ok (.enter f (args.map a.eval)) w:=by
 unfold execOp;simp only [ho,PR,resolve,Act.eval,Deferred.ofValue,P2,PL,invoke];simp only [Array.append_empty,Array.empty_append];exact oY h _
theorem Ca {d j k:Nat} (h:bv d j=bv d k):j=k:=by unfold bv at h; omega
theorem xN {tm:Array Value} (hS:SatB M p0 w0 S tm w p β) {B:Nat} {r q:PH} {R:RT} {x:R.den} {v:Value} {name:Nat} {bs:List Nat} (hB:w0.heap.size<=B)
  (hrp:PH.le r p) (_hqp:PH.le q p) (hpq:∀ b,B<=b->q b=none->p b=none) (hR:R.holds w B r q x v) (hbs:∀ b,R.blk v=some b->b ∉ bs)
  (hl:∀ d e b,S.lh d=some e->e.live=true->b8 (β d)=some b->b<B\/b∈bs) :
  ∃ β',SatB M p0 w0 (R.put x name S) tm w p β'/\(R.av name x).val1 p β' v/\(∀ n,n≠name->β' n=β n) /\
   (∀ d e b,(R.put x name S).lh d=some e->e.live=true->b8 (β' d)=some b->b<B\/b∈(match R.blk v with | some b=>b::bs | none=>bs)):=by
 cases R with
 | dat T =>
  refine ⟨β,hS,dG (tm:=#[]) ?_,fun _ _=>rfl,?_⟩
  ·have hR':T.vholds r x v:=hR;unfold Ty.vholds at hR' |-;cases T with
   | pair A C=>obtain ⟨cs,e,hc⟩:=hR'; exact ⟨cs,e,Ty.holds_mono hrp _ _ _ hc⟩
   | int k=>exact Ty.holds_mono hrp (.int k) _ _ hR'
   | bool=>exact Ty.holds_mono hrp .bool _ _ hR'
   | str=>exact Ty.holds_mono hrp .str _ _ hR'
   | arr T=>exact Ty.holds_mono hrp (.arr T) _ _ hR'
   | nil=>exact Ty.holds_mono hrp .nil _ _ hR'
   | ref T=>exact Ty.holds_mono hrp (.ref T) _ _ hR'
   | fn A B=>exact Ty.holds_mono hrp (.fn A B) _ _ hR'
   | map k V=>exact Ty.holds_mono hrp (.map k V) _ _ hR'
  ·exact hl
 | map k V =>
  obtain ⟨⟨g,es,clock,rfl,hg,h1,h2,h3⟩,h4⟩:=hR
  have hfresh:=hS.fresh (d:=name) (e:=.mapp k V x) (v:=.map (some g)) ⟨g,es,clock,by simp,h1,h2,cf (fun x _=>dH (fun cs=>Ty.holds_mono hrp V x cs)) _ _ h3⟩
   (fun b _ hb=>by injection hb with hb; subst hb; exact ⟨.inr (P9 hB hg),hpq _ hg (h4 _ rfl)⟩)
   (fun d' e' b _ _ hd hl' hb hb'=>by
    injection hb with hb
    subst hb;rcases hl d' e' _ hd hl' hb' with h | h
    ·omega
    ·exact hbs _ rfl h)
  refine ⟨_,hfresh,?_,fun n hn=>by simp [hn],?_⟩
  ·show Value.map (some g)=_;simp
  ·intro d e' b hd hl' hb;by_cases hdn:d=name
   ·subst hdn;simp only [if_true] at hb;right;simp [RT.blk,hb]
   ·simp only [hdn,P5] at hb;have hd':(S.fresh name (.mapp k V x)).lh d=some e':=hd;simp only [St.fresh,St.entry,St.scrub,cg hdn,PF,Py] at hd';obtain ⟨e0,h5,rfl⟩:=hd';rw [LE.scrub_live] at hl';rcases hl d e0 b h5 hl' hb with h | h
    ·exact .inl h
    ·right;simp only [RT.blk];split <;> simp [h]
 | own e T =>
  obtain ⟨⟨l,h1,h2,h3⟩,h4⟩:=hR
  have hblk:∀ b,b8 v=some b->B<=b:=by
   intro b hb;rcases h1.2 with ⟨rfl,_⟩ | ⟨g,cap,cur,rfl,hg,_⟩
   ·cases hb
   ·injection hb with hb; subst hb; exact hg
  have h1':w.ownsRow 0 e T.size v x.length l:=by
   refine ⟨h1.1,?_⟩;rcases h1.2 with h | ⟨g,cap,cur,e1,_,h5⟩
   ·exact .inl h
   ·exact .inr ⟨g,cap,cur,e1,Qa _,h5⟩
  have hfresh:=hS.fresh (d:=name) (e:=.row e T x) (v:=v) ⟨l,by simpa using h1',dx (fun x cs h=>Ty.holds_mono hrp T x cs h) _ _ h2,h3⟩
   (fun b _ hb=>⟨.inr (P9 hB (hblk b hb)),hpq b (hblk b hb) (h4 b hb)⟩)
   (fun d' e' b _ _ hd hl' hb hb'=>by
    rcases hl d' e' b hd hl' hb' with h | h
    ·have:=hblk b hb; omega
    ·exact hbs b hb h)
  refine ⟨_,hfresh,?_,fun n hn=>by simp [hn],?_⟩
  ·show v=_;simp
  ·intro d e' b hd hl' hb;by_cases hdn:d=name
   ·subst hdn;simp only [if_true] at hb;right;simp [RT.blk,hb]
   ·simp only [hdn,P5] at hb;have hd':(S.fresh name (.row e T x)).lh d=some e':=hd;simp only [St.fresh,St.entry,St.scrub,cg hdn,PF,Py] at hd';obtain ⟨e0,h5,rfl⟩:=hd';rw [LE.scrub_live] at hl';rcases hl d e0 b h5 hl' hb with h | h
    ·exact .inl h
    ·right;simp only [RT.blk];split <;> simp [h]
theorem JF {bad:Nat->Bool}:∀ (a b:AV),a.scrub bad=a->b.scrub bad=b->(a.app b).scrub bad=a.app b:=by
 intro a
 induction a with
 | pair u v _ ih2 =>
  intro b ha hb;simp only [AV.scrub,AV.pair.injEq] at ha;simp only [AV.app,AV.scrub,ha.1,ih2 b ha.2 hb]
 | _ =>
  intro b ha hb;simp only [AV.app];simp only [AV.scrub] at ha |-
  try simp only [ha,hb]
  try simp_all
theorem vG {bad:Nat->Bool}:∀ (T:Ty) (x:T.den),(T.av x).scrub bad=T.av x
 | .pair A B,x=>JF _ _ (vG A x.1) (vG B x.2)
 | .int _,_=>rfl
 | .bool,_=>rfl
 | .str,_=>rfl
 | .arr _,_=>rfl
 | .nil,_=>rfl
 | .ref _,_=>rfl
 | .fn _ _,_=>rfl
 | .map _ _,_=>rfl
theorem Gb {T:Ty} {x:T.den} {v:Value} {β β':Nat->Value} (h:(T.av x).val1 p β v):(T.av x).val1 p β' v:=by
 have:=AV.val1_scrub (bad:=fun _=>true) (β':=β') (fun d hd=>by cases hd) _ v h
 rwa [vG] at this
theorem RT.av_name {R:RT} {x:R.den} {name:Nat} {v:Value} {β β':Nat->Value} (h:(R.av name x).val1 p β v) (hβ:β' name=β name):(R.av name x).val1 p β' v:=by
 cases R with
 | dat T=>exact Gb h
 | own e T=>have h':v=β name:=h; show v=β' name; rw [hβ]; exact h'
 | map k V=>have h':v=β name:=h; show v=β' name; rw [hβ]; exact h'
theorem oN {tm:Array Value} {B:Nat} {r q:PH} {d:Nat} (hB:w0.heap.size<=B) (hrp:PH.le r p) (hqp:PH.le q p) (hpq:∀ b,B<=b->q b=none->p b=none) :
  ∀ (Rs:List RT) (k:Nat) (x:eB Rs) (vs:List Value) (bs:List Nat) (S:St) (β:Nat->Value),SatB M p0 w0 S tm w p β->jp w B r q Rs x vs bs ->
   (∀ d e b,S.lh d=some e->e.live=true->b8 (β d)=some b->b<B\/b∈bs) ->
   ∃ β',SatB M p0 w0 (lf d k Rs x S) tm w p β'/\(oc d k Rs x).vals p β' vs/\(∀ n,(∀ j,k<=j->n≠bv d j)->β' n=β n)
 | [],k,x,vs,bs,S,β,hS,hR,hl=>by
  have:vs=[]:=hR;subst this;exact ⟨β,hS,trivial,fun _ _=>rfl⟩
 | [R],k,x,vs,bs,S,β,hS,hR,hl=>by
  obtain ⟨v,rfl,h1,h2⟩:=hR;obtain ⟨β',h3,h4,h5,_⟩:=xN (name:=bv d k) hS hB hrp hqp hpq h1 h2 hl;exact ⟨β',h3,⟨h4,trivial⟩,fun n hn=>h5 n (hn k (PP _))⟩
 | R::U::Rs,k,x,vs,bs,S,β,hS,hR,hl=>by
  obtain ⟨v,rest,rfl,h1,h2,h3⟩:=hR;obtain ⟨β1,h4,h5,h6,h7⟩:=xN (name:=bv d k) hS hB hrp hqp hpq h1 h2 hl;obtain ⟨β2,h8,h9,h10⟩:=oN hB hrp hqp hpq (U::Rs) (k+1) x.2 rest _ _ β1 h4 h3 h7;refine ⟨β2,h8,⟨RT.av_name h5 (h10 _ (fun j hj e=>by have:=Ca e; omega)),h9⟩,fun n hn=>?_⟩;rw [h10 n (fun j hj=>hn j (by omega)),h6 n (hn k (PP _))]
theorem mh {p q:PH} (h:PH.le p q) {T:Ty} {x:T.den} {v:Value} (hv:T.vholds p x v):T.vholds q x v:=by
 unfold Ty.vholds at hv |-;cases T with
 | pair A C=>obtain ⟨cs,e,hc⟩:=hv; exact ⟨cs,e,Ty.holds_mono h _ _ _ hc⟩
 | int k=>exact Ty.holds_mono h (.int k) _ _ hv
 | bool=>exact Ty.holds_mono h .bool _ _ hv
 | str=>exact Ty.holds_mono h .str _ _ hv
 | arr T=>exact Ty.holds_mono h (.arr T) _ _ hv
 | nil=>exact Ty.holds_mono h .nil _ _ hv
 | ref T=>exact Ty.holds_mono h (.ref T) _ _ hv
 | fn A B=>exact Ty.holds_mono h (.fn A B) _ _ hv
 | map k V=>exact Ty.holds_mono h (.map k V) _ _ hv
theorem nb {p:PH} {T:Ty} {x:T.den} {v:Value}:fv T (T.holds p x) v ↔ T.vholds p x v:=by
 cases T <;> simp [fv,Ty.isPair,Ty.vholds]
theorem nS {p q:PH} (h:PH.le p q):∀ (Ts:List Ty) (x:gi Ts) (vs:List Value),dd p Ts x vs->dd q Ts x vs
 | [],_,_,e=>e
 | [_],_,_,⟨v,e,hv⟩=>⟨v,e,mh h hv⟩
 | _::U::Ts,_,_,⟨v,rest,e,hv,hr⟩=>⟨v,rest,e,mh h hv,nS h (U::Ts) _ _ hr⟩
theorem wU {q:PH} {A:Ty} {refs:List Ty} {x:A.den} {c:gi refs} {v:Value} {vs:List Value} (hv:A.vholds q x v) (hc:dd q refs c vs):dd q (A::refs) (DF A refs x c) (v::vs):=by
 cases refs with
 | nil =>
  have:vs=[]:=hc;subst this;exact ⟨v,rfl,hv⟩
 | cons U Us=>exact ⟨v,vs,rfl,hv,hc⟩
theorem jB {tm:Array Value}:∀ (c:List (Nat×Nat)) (vs:List Value),ij β c vs->vs.length=c.length/\∀ (i:Nat) a v,(c.map fun x=>AV.loc x.1 x.2)[i]?=some a->vs[i]?=some v->a.val p β tm v
 | [],vs,h=>by
  have:vs=[]:=h;subst this;exact ⟨rfl,fun i a v h=>by simp at h⟩
 | (d,off)::c,vs,⟨b,rest,e,hd,hr⟩=>by
  subst e;obtain ⟨h1,h2⟩:=jB c rest hr;refine ⟨by simp [h1],fun i a v ha hv=>?_⟩;cases i with
  | zero =>
   simp only [Qf,List.getElem?_cons_zero,Ps] at ha hv;subst ha hv;exact ⟨b,hd,rfl⟩
  | succ i=>exact h2 i a v (by simpa using ha) (by simpa using hv)
theorem sB {cv:(T:Ty)->AV->Option T.den} {tm:Array Value} (hcv:∀ (T:Ty) (a:AV) (x:T.den) (v:Value),cv T a=some x->a.val p β tm v->T.vholds (full w) x v) (hS:SatB M p0 w0 S tm w p β) {ss:Specs} (hss:ss.okA P M w0) {f:FuncId} {c2:List (Nat×Nat)} {A B:Ty} {s:Spec} {g:(A.den->Prop)×(A.den->B.den)} {v:Value} (hs:ss f=some s) (hc:cT P f=true)
  (h:Hl cv A B s (c2.map fun x=>.loc x.1 x.2)=some g) (hv:(AV.fn f [] c2).val p β tm v):(Ty.fn A B).holds (full w) g [v]:=by
 obtain ⟨⟨hP,hsp,_⟩,hLd,hLM⟩:=hss;have hok:=hsp f s hs;obtain ⟨Ts,Rs,al,pre,F⟩:=s
 match Ts,Rs,pre,F,hok,h with
 | A'::refs,[.dat B'],pre,F,hok,h =>
  simp only [Hl] at h;split at h <;> try cases h
  rename_i hT;obtain ⟨rfl,rfl,hnil⟩:=hT;split at h <;> simp only [Ps,reduceCtorEq] at h;rename_i c hcaps;subst h;obtain ⟨v1,v2,rfl,k1,k2⟩:=hv
  have k1:v1=#[]:=by
   have:v1.toList=[]:=k1;apply P6.1;simpa using this
  subst k1;obtain ⟨l1,l2⟩:=jB (p:=p) (tm:=tm) c2 v2.toList k2;have hargs:=g8 (tm:=tm) hcv refs _ c v2.toList hcaps (by simpa using l1) l2;refine ⟨f,#[],v2,rfl,by rw [<- hP]; exact hc,fun _ q w' va x hq hag hx hpre=>?_,fun hn=>by rw [hnil] at hn; cases hn⟩;have ha:=wU (nb.1 hx) (nS hq refs c _ hargs);have:=hok q w' (va::v2.toList) (DF A' refs x c) (Jb (hLd.keep hLM hS.keep) hq hag) hag ha hpre;rw [hP] at this
  have e:(#[]++#[va]++v2:Array Value)=(va::v2.toList).toArray:=by
   apply P6.1; simp
  rw [e];refine this.mono ?_;rintro en w'' ⟨rs,q',rfl,z1,z2,z3,z4⟩;obtain ⟨r,rfl,hr,_⟩:=z4;have hqlt:∀ b cs,q b=some cs->b<w'.heap.size:=fun b cs h=>hag.lt h
  refine ⟨r,q',rfl,z1,z2,z3,nb.2 ?_⟩;have hr':B'.vholds (if al=true then q.union q' else q') (F (DF A' refs x c)) r:=hr;cases al
  ·exact mh (iN hqlt z2) hr'
  ·exact hr'
 | [],_,_,_,_,h=>cases h
 | _::_,[],_,_,_,h=>cases h
 | _::_,.own _ _::_,_,_,_,h=>cases h
 | _::_,.map _ _::_,_,_,_,h=>cases h
 | _::_,.dat _::_::_,_,_,_,h=>cases h
theorem ze {tm:Array Value} (hS:SatB M p0 w0 S tm w p β) {ss:Specs} (hss:ss.okA P M w0) {T:Ty} {a:AV} {x:T.den} {v:Value} (h:a.toTyB P ss S.lh T=some x) (ha:a.val p β tm v):T.vholds (full w) x v:=by
 unfold AV.toTyB at h;split at h
 ·rename_i A B d;split at h <;> try cases h
  rename_i f c2 hd;split at h <;> try cases h
  rename_i hc;split at h <;> try cases h
  rename_i s hs;obtain ⟨b,e1,rfl⟩:=ha;obtain ⟨b',cs',t,e2,e3,e4⟩:=hS.lhs d _ hd;obtain ⟨u,hu,hv⟩:=(AV.cells_leaf _ (by intro x y e; cases e) _).1 e4;have hg:=sB (cv:=fun T a=>a.toTy true S.lh T) (tm:=tm) (fun T a x v h ha=>by simpa using cP hS (rows:=true) h ha) hS hss hs hc h (AV.val_of_val1 hv);rw [e1] at e2;injection e2 with e2
  injection e2 with e2
  injection e2 with e2 _ _
  subst e2;show (Ty.ref (Ty.fn A B)).holds (full w) x [_];refine ⟨b,0,[u],rfl,hg,fun j u' hj=>?_⟩
  have h7:cs'[j]?=some u':=by
   have:cs'.toList[j]?=some u':=by rw [hu]; exact hj
   simpa using this
  simp only [PH.cell,full,e3,Rh,Blk.get,Qg];exact h7
 ·simpa using cP hS (rows:=true) h ha
theorem oQ {tm:Array Value} (hS:SatB M p0 w0 S tm w p β) {ss:Specs} (hss:ss.okA P M w0) {rows:Bool} {T:Ty} {a:AV} {x:T.den} {v:Value} (h:a.toTyC P ss S.lh rows T=some x) (ha:a.val p β tm v):T.vholds (if rows then full w else p) x v:=by
 unfold AV.toTyC at h;split at h
 ·rename_i A B f c2;split at h <;> try cases h
  rename_i hr;simp only [Px] at hr;split at h <;> try cases h
  rename_i s hs;rw [hr.1];exact sB (fun _ _ _ _ h ha=>ze hS hss h ha) hS hss hs hr.2 h ha
 ·exact cP hS h ha
theorem SatB.called {tm:Array Value} (hS:SatB M p0 w0 S tm w p β) {w':World} {q:PH} (hk:Keep (fun _=>False) w w') (hq1:∀ b cs,q b=some cs->w.heap.size<=b) (hq2:Agrees q w'):SatB M p0 w0 S tm w' (p.union q) β:=by
 have hgrow:SatB M p0 w0 S tm w' p β:=hS.grow hk.os hk.tape hk.output hk.size (fun b hb=>hk.block b hb (fun h=>h.elim));refine hgrow.more (eV p q) (jk hgrow.agr hq2) (fun b cs hb=>?_) (fun d' e' b hd hlv hb=>?_)
 ·unfold PH.union at hb;split at hb
  ·rename_i c hc;injection hb with hb
   subst hb;exact .inl hc
  ·exact .inr (.inl (P9 hS.keep.size (hq1 b cs hb)))
 ·have h1:=(hS.owns d' e' b hd hlv hb).2;have h2:=LE.sat_lt d' e' hlv (hS.lhs d' e' hd) hb
  have h3:q b=none:=by
   cases hqb:q b with
   | none=>rfl
   | some c=>have:=hq1 b c hqb; omega
  simp [PH.union,h1,h3]
theorem qD {f:FuncId} (h:cT P f=true) {o:Oper} {x:Operand} {args:Array Operand} {ts:Array TypeId} {v1 v2:Array Value} (ho:o.op=.call { callee:=.value x,args,argTypes:=ts }) (hx:a.eval x=.func (.func f) v1 v2) :
  (execOp a.eval o).run P w=.ok (.enter f (v1++args.map a.eval++v2)) w:=by
 unfold execOp;simp only [ho,PR,resolve,hx,Deferred.ofValue,P2,PL,invoke];exact oY h _
theorem LH (hS:SatB M p0 w0 S a.tmps w p β) {ss:Specs} (hss:ss.okA P M w0) {o:Oper} {x y:Operand} {ts:Array TypeId} (ho:o.op=.call { callee:=.value x,args:=#[y],argTypes:=ts }) {A B:Ty} {g:(A.den->Prop)×(A.den->B.den)}
  (hx:(AV.fd A B g).val p β a.tmps (a.eval x)) (hn:A.isNil=false) {z:A.den} (hy:A.vholds p z (a.eval y)) (hpre:g.1 z):VOK M p0 w0 S P o a w p β (B.av (g.2 z)):=by
 obtain ⟨⟨hP,_⟩,_⟩:=hss;obtain ⟨f,v1,v2,e,hc,hf,_⟩:=hx;injection e with e _
 intro K Q hK;unfold Oper.wp;rw [qD (by rw [hP]; exact hc) ho e];simp only [Rn];have:=hf hn p w (a.eval y) z (PH.le.refl p) hS.agr (nb.2 hy) hpre;rw [<- hP] at this;have e2:(v1++Array.map a.eval #[y]++v2)=v1++#[a.eval y]++v2:=by simp
 rw [e2];refine this.mono ?_;rintro en w' ⟨r,q,rfl,hk,hq1,hq2,hr⟩;exact hK r w' _ (hS.called hk hq1 hq2) (eV p q) (AV.val_of_val1 (dG (tm:=a.tmps) (nb.1 hr)))
theorem p6 (hS:SatB M p0 w0 S a.tmps w p β) {ss:Specs} (hss:ss.okA P M w0) {f:FuncId} {avs:List AV} {vs:List Value} {q0:Prop} {Rs:List RT} {x:eB Rs}
  (h:mX P ss S.lh f avs=some (q0,⟨Rs,x⟩)) (hq:q0) (hl:vs.length=avs.length) (hv:∀ (i:Nat) a' v,avs[i]?=some a'->vs[i]?=some v->a'.val p β a.tmps v) (d:Nat) :
  cT P f=true/\Calls P f vs.toArray w fun e w'=>∃ rs p' β',e=.returned (cr rs)/\PH.le p p'/\SatB M p0 w0 (lf d 0 Rs x S) a.tmps w' p' β'/\(oc d 0 Rs x).vals p' β' rs /\
   (Rs.all RT.isDat=true->β'=β):=by
 unfold mX at h;split at h <;> try cases h
 rename_i hc;split at h <;> try cases h
 rename_i s hs;split at h <;> try cases h
 rename_i y hy;refine ⟨hc,?_⟩;have hargs:=g8 (fun _ _ _ _ h ha=>oQ hS hss h ha) _ _ _ vs hy hl hv
 have hAg:Agrees (if (!s.al)=true then full w else p) w:=by
  split
  ·exact mT w
  ·exact hS.agr
 refine (hss.1.2.1 f s hs _ w vs y (hss.2.1.keep hss.2.2 hS.keep) hAg hargs hq).mono ?_;rintro e w' ⟨rs,q,rfl,hk,hq1,hq2,hres⟩;have hgrow:SatB M p0 w0 S a.tmps w' p β:=hS.grow hk.os hk.tape hk.output hk.size (fun b hb=>hk.block b hb (fun h=>h.elim));have hplt:∀ b cs,p b=some cs->b<w.heap.size:=fun b cs h=>hS.agr.lt h
 have hmore:SatB M p0 w0 S a.tmps w' (p.union q) β:=hgrow.more (eV p q) (jk hgrow.agr hq2) (fun b cs hb=>by
  unfold PH.union at hb;split at hb
  ·rename_i c hc;injection hb with hb
   subst hb;exact .inl hc
  ·exact .inr (.inl (P9 hS.keep.size (hq1 b cs hb)))) (fun d' e' b hd hlv hb=>by
  have h1:=(hS.owns d' e' b hd hlv hb).2;have h2:=LE.sat_lt d' e' hlv (hS.lhs d' e' hd) hb
  have h3:q b=none:=by
   cases hqb:q b with
   | none=>rfl
   | some c=>have:=hq1 b c hqb; omega
  simp [PH.union,h1,h3])
 have hrp:PH.le (if s.al=true then (if (!s.al)=true then full w else p).union q else q) (p.union q):=by
  cases hal:s.al
  ·simp only [PG,P5];exact iN hplt hq1
  ·simp only [RA,PG,P5,if_true];exact PH.le.refl _
 have hpq:∀ b,w.heap.size<=b->q b=none->(p.union q) b=none:=by
  intro b hb hqb
  have:p b=none:=by
   cases hpb:p b with
   | none=>rfl
   | some c=>have:=hplt b c hpb; omega
  simp [PH.union,this,hqb]
 obtain ⟨β',h1,h2,h3⟩:=oN (d:=d) (P9 hS.keep.size (PP _)) hrp (iN hplt hq1) hpq s.Rs 0 (s.F y) rs [] S β hmore hres
  (fun d' e' b hd hlv hb=>.inl (LE.sat_lt d' e' hlv (hS.lhs d' e' hd) hb))
 by_cases hdat:s.Rs.all RT.isDat=true
 ·
  have key:∀ (Rs:List RT) (k:Nat) (x:eB Rs) (S:St),Rs.all RT.isDat=true->lf d k Rs x S=S:=by
   intro Rs
   induction Rs with
   | nil=>intro k x S _; rfl
   | cons R Rs ih =>
    intro k x S hd;simp only [Qv,Px] at hd;cases R with
    | own e T=>exact absurd hd.1 (by simp [RT.isDat])
    | map k V=>exact absurd hd.1 (by simp [RT.isDat])
    | dat T =>
     cases Rs with
     | nil=>rfl
     | cons U Rs=>exact ih (k+1) x.2 S hd.2
  have key2:∀ (Rs:List RT) (k:Nat) (x:eB Rs) (vs:List Value),Rs.all RT.isDat=true->(oc d k Rs x).vals (p.union q) β' vs->(oc d k Rs x).vals (p.union q) β vs:=by
   intro Rs
   induction Rs with
   | nil=>intro k x vs _ h; cases vs <;> exact h
   | cons R Rs ih =>
    intro k x vs hd h;simp only [Qv,Px] at hd;cases R with
    | own e T=>exact absurd hd.1 (by simp [RT.isDat])
    | map k V=>exact absurd hd.1 (by simp [RT.isDat])
    | dat T =>
     cases Rs with
     | nil=>match vs,h with
      | v::vs,h=>exact ⟨Gb h.1,by have:=h.2; cases vs <;> exact this⟩
     | cons U Rs=>match vs,h with
      | v::vs,h=>exact ⟨Gb h.1,ih (k+1) x.2 vs hd.2 h.2⟩
  refine ⟨rs,_,β,rfl,eV p q,?_,key2 s.Rs 0 (s.F y) rs hdat h2,fun _=>rfl⟩;rw [key s.Rs 0 (s.F y) S hdat];exact hmore
 ·exact ⟨rs,_,β',rfl,eV p q,h1,h2,fun h=>absurd h hdat⟩
end
section
variable {M:Nat->Prop} {p0:PH} {w0:World} {S:St} {w:World} {p:PH} {β:Nat->Value} {P:Program} {a:Act}
theorem iJ (hS:SatB M p0 w0 S a.tmps w p β) {ctx:List (Nat×Bool)} (hc:gB ctx a.tmps) (xs:List Operand) :
  ∀ (i:Nat) a' v,(xs.map (S.look ctx))[i]?=some a'->(xs.map a.eval)[i]?=some v->a'.val p β a.tmps v:=by
 intro i a' v h1 h2;simp only [List.getElem?_map,Py] at h1 h2;obtain ⟨x,hx,rfl⟩:=h1;obtain ⟨y,hy,rfl⟩:=h2;rw [hx] at hy;injection hy with hy
 subst hy;exact aU hS hc x
theorem km (hS:SatB M p0 w0 S a.tmps w p β) {ctx:List (Nat×Bool)} (hc:gB ctx a.tmps) (lo:Option Operand) :
  ((lo.map (S.look ctx))=none/\(lo.map a.eval)=none)\/∃ a' v,(lo.map (S.look ctx))=some a'/\(lo.map a.eval)=some v/\a'.val p β a.tmps v:=by
 cases lo with
 | none=>exact .inl ⟨rfl,rfl⟩
 | some x=>exact .inr ⟨_,_,rfl,rfl,aU hS hc x⟩
theorem qH {tm:Array Value} (d:Nat) (Rs:List RT) (x:eB Rs) (rs:List Value) (h:(oc d 0 Rs x).vals p β rs):(GC d Rs x).val p β tm (cr rs):=by
 match Rs,x,h with
 | [],x,h=>match rs,h with
  | [],_=>rfl
 | [R],x,h=>match rs,h with
  | [v],h=>exact AV.val_of_val1 (show (R.av d x).val1 p β v from by simpa [bv] using h.1)
 | R::U::Rs,x,h=>match rs,h with
  | v::u::vs,h=>exact ⟨v::u::vs,rfl,h⟩
  | [v],h =>
   have h2:=h.2;cases Rs <;> exact h2.elim
theorem mj:∀ (avs:List AV) (vs:List Value) (c:List (Nat×Nat)) (tm:Array Value),qy avs=some c->vs.length=avs.length->(∀ (i:Nat) a' v,avs[i]?=some a'->vs[i]?=some v->a'.val p β tm v)->ij β c vs
 | [],vs,c,tm,h,hl,_=>by
  simp only [qy,Ps] at h;subst h;exact PO hl
 | x::avs,vs,c,tm,h,hl,hv=>by
  match vs,hl,hv with
  | v::vs,hl,hv =>
   cases x <;> simp only [qy,reduceCtorEq] at h;rename_i d off;simp only [Py] at h;obtain ⟨c',h1,rfl⟩:=h;obtain ⟨b,e1,rfl⟩:=hv 0 _ v rfl rfl;exact ⟨b,vs,rfl,e1,mj avs vs c' tm h1 (by simpa using hl) (fun i a' v ha hb=>hv (i+1) a' v (by simpa using ha) (by simpa using hb))⟩
theorem d7 {b:Builtin} {o:Oper} {args:Array Operand} {ts:Array TypeId} (ho:o.op=.call { callee:=.builtin b,args,argTypes:=ts }) :
  ∃ cs,(execOp a.eval o).run P w=(builtin b ts o.type cs (args.map a.eval)).run P w:=by
 have h:∃ d:Deferred,(resolve a.eval { callee:=.builtin b,args,argTypes:=ts } o.type).run P w=.ok d w/\d.args=args.map a.eval/\∃ cs,d.target=.builtin b ts o.type cs :=
  ⟨_,rfl,rfl,_,rfl⟩
 obtain ⟨d,h1,h2,cs,h3⟩:=h;refine ⟨cs,?_⟩;unfold execOp;simp only [ho,PR,h1,PL,h2,h3,invoke]
theorem qW (hS:SatB M p0 w0 S a.tmps w p β) {ss:Specs} (hss:ss.okA P M w0) {ctx:List (Nat×Bool)} (hc:gB ctx a.tmps) {o:Oper} {ps:List Prop} {r:AV}
  (h:nQ P ss S ctx o=some (ps,r)) (hps:∀ q∈ps,q):VOK M p0 w0 S P o a w p β r:=by
 have lk:=aU hS hc;unfold nQ at h;split at h
 ·rename_i x ho;simp only [Ps,Pv] at h;obtain ⟨rfl,rfl⟩:=h;refine VOK.of_yields hS (s:=pure (a.eval x)) (by simp only [execOp,ho]; rfl) ⟨_,rfl,lk x⟩
 ·rename_i x ho;simp only [Ps,Pv] at h;obtain ⟨rfl,rfl⟩:=h;refine VOK.of_yields hS (s:=pure (a.eval x)) (by simp only [execOp,ho]; rfl) ⟨_,rfl,lk x⟩
 ·rename_i op t x y yt ho;exact VOK.of_yields hS (by simp only [execOp,ho]) (Aw (ox:=x) (oy:=y) h hps (lk x) (lk y))
 ·rename_i op t x ho;exact VOK.of_yields hS (by simp only [execOp,ho]) (FS h hps (lk x))
 ·rename_i src dst x ho;split at h
  ·rename_i hsrc;exact VOK.of_yields hS (by simp only [execOp,ho]) (At h (lk x) hsrc)
  ·cases h
 ·rename_i t x ho;exact VOK.of_yields hS (by simp only [execOp,ho]) (Aq hS h hps (lk x))
 ·rename_i s x i ho;exact VOK.of_yields hS (by simp only [execOp,ho]) (p5 h (lk x))
 ·rename_i s x i ho;exact VOK.of_yields hS (by simp only [execOp,ho]) (wL h (lk x))
 ·rename_i t x i ho;exact VOK.of_yields hS (by simp only [execOp,ho]) (pZ hS h hps (lk x) (lk i))
 ·rename_i t x i ho;exact VOK.of_yields hS (by simp only [execOp,ho]) (u6 h hps (lk x) (lk i))
 ·rename_i t x lo hi ho;exact VOK.of_yields hS (by simp only [execOp,ho]; rfl) (wJ hS h hps (lk x) (km hS hc lo) (km hS hc hi))
 ·rename_i x n ho;simp only [Py,Pv] at h;obtain ⟨r',h1,rfl,rfl⟩:=h;exact VOK.of_yields hS (by simp only [execOp,ho]) (wH h1 (lk x))
 ·rename_i t parts ho;split at h
  ·rename_i hu;exact VOK.of_yields hS (by simp only [execOp,ho]) (wO hS h lk (fun fs hfs=>by unfold tE at hu; rw [hfs] at hu; exact hu) (fun n e hfs=>by unfold tE at hu; rw [hfs] at hu; exact hu))
  ·cases h
 ·rename_i g x y ho;split at h <;> simp only [Ps,Pv,reduceCtorEq] at h <;> obtain ⟨rfl,rfl⟩:=h;rename_i c b1 b2 h1 h2 h3
  have e1:a.tmps.getD g undef=.bool c:=by
   have:=lk (.tmp g);rw [h1] at this;exact this
  have vx:c=true->a.eval x=.bool b1:=by
   intro hct
   have:=aU hS (ctx:=(g,true)::ctx) (by
    intro z hz;rcases PD.1 hz with rfl | hz
    ·rw [e1,hct]
    ·exact hc z hz) x
   rw [h2] at this;exact this
  have vy:c=false->a.eval y=.bool b2:=by
   intro hct
   have:=aU hS (ctx:=(g,false)::ctx) (by
    intro z hz;rcases PD.1 hz with rfl | hz
    ·rw [e1,hct]
    ·exact hc z hz) y
   rw [h3] at this;exact this
  have e2:a.eval (.tmp g)=.bool c:=e1;refine VOK.of_run hS (v:=if c then a.eval x else a.eval y) (by simp only [execOp,ho,e2,asBool,PR,P2,PL]) ?_;show _=Value.bool _;cases hct:c
  ·simp only [PG,P5];rw [vy hct];congr 1;split
   ·simp
   ·rename_i e _;simp only [Act.eval] at vy;have:=vy hct;simp only [Value.bool.injEq] at this;simp [this.symm]
   ·simp
  ·simp only [if_true];rw [vx hct];congr 1;split
   ·simp only [Act.eval] at vx;have:=vx hct;simp only [Value.bool.injEq] at this;simp [this.symm]
   ·simp
   ·simp
 ·rename_i args ts ho;split at h
  ·rename_i x t hx ht;obtain ⟨v,e,hv⟩:=Dt (ty:=o.type) hS h (lk x);have ha:args=#[x]:=by apply P6.1; rw [hx]
   have hts:ts=#[t]:=by apply P6.1; rw [ht]
   refine VOK.of_run hS ?_ hv;obtain ⟨cs,hb⟩:=d7 (a:=a) (w:=w) (P:=P) ho;rw [hb,ha,hts];simp only [builtin,Rj,Qf,Rq,PR,e,PL,P2]
  ·cases h
 ·rename_i args ts ho;split at h
  ·rename_i x xs hx;simp only [Py,Pv] at h;obtain ⟨r',h1,rfl,rfl⟩:=h;have ha:args=(x::xs).toArray:=by apply P6.1; rw [hx]
   have:=oG (P:=P) (w:=w) false _ (xs.map a.eval) _ (a.eval x) r' h1 (lk x) (by simp) (iJ hS hc xs);obtain ⟨v,e,hv⟩:=this;refine VOK.of_run hS ?_ hv;obtain ⟨cs,hb⟩:=d7 (a:=a) (w:=w) (P:=P) ho;rw [hb,ha];simp only [builtin,Rj,Qf,PR,Builtin.min_];simp only [PG,P5] at e;rw [e];rfl
  ·cases h
 ·rename_i args ts ho;split at h
  ·rename_i x xs hx;simp only [Py,Pv] at h;obtain ⟨r',h1,rfl,rfl⟩:=h;have ha:args=(x::xs).toArray:=by apply P6.1; rw [hx]
   have:=oG (P:=P) (w:=w) true _ (xs.map a.eval) _ (a.eval x) r' h1 (lk x) (by simp) (iJ hS hc xs);obtain ⟨v,e,hv⟩:=this;refine VOK.of_run hS ?_ hv;obtain ⟨cs,hb⟩:=d7 (a:=a) (w:=w) (P:=P) ho;rw [hb,ha];simp only [builtin,Rj,Qf,PR,Builtin.max_];simp only [if_true] at e;rw [e];rfl
  ·cases h
 ·rename_i f args ts ho;split at h <;> try cases h
  rename_i q0 Rs x he;split at h <;> simp only [Ps,Pv,reduceCtorEq] at h <;> obtain ⟨rfl,rfl⟩:=h;rename_i hdat;intro K Q hK;obtain ⟨hcal,hcalls⟩:=p6 hS hss he (hps _ (by simp)) (vs:=args.toList.map a.eval) (by simp) (iJ hS hc args.toList) 0;unfold Oper.wp;rw [mA hcal ho];simp only [Rn];have e:(args.toList.map a.eval).toArray=args.map a.eval:=by rw [<- R3,R6]
  rw [e] at hcalls;refine hcalls.mono ?_;rintro e w' ⟨rs,p',β',rfl,hle,hS',hv,hβ⟩;obtain rfl:=hβ hdat
  have key:lf 0 0 Rs x S=S:=by
   have gen:∀ (Rs:List RT) (k:Nat) (x:eB Rs) (S:St),Rs.all RT.isDat=true->lf 0 k Rs x S=S:=by
    intro Rs
    induction Rs with
    | nil=>intro k x S _; rfl
    | cons R Rs ih =>
     intro k x S hd;simp only [Qv,Px] at hd;cases R with
     | own e T=>exact absurd hd.1 (by simp [RT.isDat])
     | map k V=>exact absurd hd.1 (by simp [RT.isDat])
     | dat T =>
      cases Rs with
      | nil=>rfl
      | cons U Rs=>exact ih (k+1) x.2 S hd.2
   exact gen Rs 0 x S hdat
  rw [key] at hS';exact hK _ w' p' hS' hle (qH 0 Rs x rs hv)
 ·rename_i t args ts ho;split at h <;> try cases h
  rename_i A B g hav;split at h <;> try cases h
  rename_i hnil;split at h <;> try cases h
  rename_i y hy;split at h <;> simp only [Ps,Pv,reduceCtorEq] at h <;> obtain ⟨rfl,rfl⟩:=h;rename_i z hz;have e1:args=#[y]:=by apply P6.1; rw [hy]
  subst e1;have hx:=lk (.tmp t);rw [hav] at hx;have hyv:=cP hS hz (lk y);exact LH hS hss ho hx (by simpa using hnil) (by simpa using hyv) (hps _ (by simp))
 ·rename_i t m x ok ho;exact VOK.of_yields hS (by simp only [execOp,ho]) (vd hS h hps (lk m) (lk x))
 ·rename_i x ho;split at h <;> try cases h
  rename_i d hx;split at h <;> simp only [Ps,Pv,reduceCtorEq] at h <;> obtain ⟨rfl,rfl⟩:=h;rename_i k V _ y hd;have hv:=lk x;rw [hx] at hv;obtain ⟨b,e1,e2⟩:=hv;obtain ⟨r,bm,since,seen,c0,es,clock,f1,f2,f3,f4,_,_,_,_,f5⟩:=hS.lhs d _ hd;obtain ⟨e,g1,s0,rfl,rfl,g4,g5,g6⟩:=f5 y rfl;rw [e1] at f1;injection f1 with f1
  injection f1 with f1
  injection f1 with f1
  subst f1;have hn:(es.toList.map (·.born)).Nodup:=f4.1.imp fun h=>Nat.ne_of_lt h
  refine VOK.of_yields hS (s:=Instr.entry (a.eval x)) (by simp only [execOp,ho]) ⟨.tuple #[e.key,e.val],?_,⟨[e.key,e.val],rfl,⟨g4,g5⟩,dG (tm:=#[]) (jG.1 g6),trivial⟩⟩;rw [e2];exact run_entry_at w b bm since s0 es c0 e f2 (hS.agr _ _ f3) g1 hn
 ·rename_i x ho;split at h <;> simp only [Ps,Pv,reduceCtorEq] at h <;> obtain ⟨rfl,rfl⟩:=h
  ·rename_i d off hx;have:=lk x;rw [hx] at this;obtain ⟨b,e1,e2⟩:=this;intro K Q hK;unfold Oper.wp
   have:(execOp a.eval o).run P w=.ok (.value (.pointer (some ⟨b,off,none⟩))) w:=by
    simp only [execOp,ho,e2,P2]
   rw [this];exact hK _ w p hS (PH.le.refl p) ⟨b,e1,rfl⟩
  ·rename_i T y off hx;have:=lk x;rw [hx] at this;obtain ⟨b,o2,es,e2,e3,e4⟩:=this;intro K Q hK;unfold Oper.wp
   have:(execOp a.eval o).run P w=.ok (.value (.pointer (some ⟨b,o2+off,none⟩))) w:=by
    simp only [execOp,ho,e2,P2]
   rw [this];exact hK _ w p hS (PH.le.refl p) ⟨b,o2,es,rfl,e3,e4⟩
 ·rename_i f first caps ho
  split at h <;> simp only [Ps,Pv,reduceCtorEq] at h <;> obtain ⟨rfl,rfl⟩:=h;rename_i c1 c2 h1 h2;refine VOK.of_yields hS (s:=Instr.makeFunc (.func f) (first.map a.eval) (caps.map a.eval)) (by unfold execOp; rw [ho]) ⟨_,rfl,?_⟩;refine ⟨_,_,rfl,?_,?_⟩
  ·have:=mj (p:=p) (β:=β) _ (first.toList.map a.eval) c1 a.tmps h1 (by simp) (iJ hS hc first.toList);simpa using this
  ·have:=mj (p:=p) (β:=β) _ (caps.toList.map a.eval) c2 a.tmps h2 (by simp) (iJ hS hc caps.toList);simpa using this
 ·cases h
end
end Go.Proofs.YtmfileeamnfpaaaGreatDoor
