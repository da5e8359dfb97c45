
import Derived.Test.YtmfileeamnfpaaaGreatDoorEG3
import Derived.WalkSpells
import Derived.Orders
namespace Go.Proofs.YtmfileeamnfpaaaGreatDoor
open Go
def RT.avD:(R:RT)->R.den->AV
 | .dat T,x=>T.av x
 | .own _ T,xs=>.sl T xs
 | .map k V,m=>.md k V m
def o8:(Rs:List RT)->eB Rs->AV
 | [],_=>.tnil
 | [R],x=>.tup (R.avD x) .tnil
 | R::U::Rs,x=>.tup (R.avD x.1) (o8 (U::Rs) x.2)
def Fc (Rs:List RT) (x:eB Rs):AV :=
 match Rs,x with
 | [R],x=>R.avD x
 | Rs,x=>o8 Rs x
def sx (P:Program) (S:St) (ctx:List (Nat×Bool)) (o:Oper):Option (List Prop×((T:Ty)×List T.den)) :=
 match o.op with
 | .makeSlice t l c=>if lC l c then match eJ P t with
   | none=>none
   | some e=>match wc P 12 e with
    | none=>none
    | some T=>match P.info? e with
     | none=>none
     | some i=>match i.zero with
      | none=>none
      | some z=>match AV.toTy false (fun _=>none) T (AV.ofCells z.cells.toList),S.look ctx l with
       | some y,.int _ n=>if fm P e T then some ([0<=n,n.toNat * T.bytes<=aF],⟨T,List.replicate n.toNat y⟩) else none
       | _,_=>none
  else none
 | .buildSlice t len parts=>match eJ P t with
  | none=>none
  | some e=>match wc P 12 e with
   | none=>none
   | some T=>match fF S.lh T (S.look ctx) 0 parts.toList with
    | none=>none
    | some ys=>if fm P e T&&Nat.beq parts.toList.length len&&Nat.ble (len * T.size) 16777216&&Nat.ble (len * T.bytes) aF then some ([],⟨T,ys⟩) else none
 | .call { callee:=.builtin .append,args,argTypes }=>match args.toList,argTypes.toList with
  | [s,x],[t,t']=>if Nat.beq t t' then match eJ P t with
    | none=>none
    | some e=>match (S.look ctx x).asRow S.lh with
     | none=>none
     | some ⟨T,ys⟩=>if fm P e T then match S.look ctx s with
      | .nils=>some ([ys.length * T.bytes<=aF],⟨T,ys⟩)
      | _=>none
      else none
   else none
  | _,_=>none
 | _=>none
def rj (lh:Nat->Option LE):AV->Option Prop
 | .sl _ xs=>some (xs=[])
 | .own d=>match lh d with
  | some (.row _ _ xs)=>some (xs=[])
  | some (.froz _ xs)=>some (xs=[])
  | _=>none
 | _=>none
def LK (P:Program) (lh:Nat->Option LE) (t:TypeId) (op:BinOp) (x y:AV):td :=
 match y with
 | .nils=>if iZ P t then match x with
  | .nils=>match op with
   | .eql=>some ([],.bool true)
   | .neq=>some ([],.bool false)
   | _=>none
  | x=>match rj lh x with
   | some q=>match op with
    | .eql=>some ([],.bl q True)
    | .neq=>some ([],.bl True q)
    | _=>none
   | none=>none
  else none
 | _=>none
def oD (P:Program) (lh:Nat->Option LE) (t:TypeId) (x:AV) (lo hi:Option AV):td :=
 match x with
 | .own d=>match lh d with
  | some (.row _ T xs)=>if gG P t T then match lo,hi with
   | none,none=>some ([],.osl d T 0 xs.length)
   | some (.int _ a),none=>some ([0<=a,a<=(xs.length:Int)],.osl d T a.toNat (xs.length - a.toNat))
   | none,some (.int _ b)=>some ([0<=b,b<=(xs.length:Int)],.osl d T 0 b.toNat)
   | some (.int _ a),some (.int _ b)=>some ([0<=a,a<=b,b<=(xs.length:Int)],.osl d T a.toNat (b.toNat - a.toNat))
   | _,_=>none
   else none
  | _=>none
 | _=>none
def oC (P:Program) (t:TypeId) (x:AV) (lo hi:Option AV):td :=
 match x,lo,hi with
 | .psl d i n,some (.int _ a),none=>if s9 P t then some ([0<=a,a<=(n:Int)],.psl d (i+a.toNat) (n - a.toNat)) else none
 | _,_,_=>none
def pO (P:Program) (t:TypeId):Bool:=match P.underlying t with
 | some (.slice e)=>(P.info? e).isSome
 | _=>false
def oE (P:Program) (t:TypeId) (x:AV) (lo hi:Option AV):td :=
 match x,lo,hi with
 | .nils,none,some (.int _ b)=>if pO P t then some ([b=0],.nils) else none
 | _,_,_=>none
def NN (P:Program) (S:St) (ctx:List (Nat×Bool)) (o:Oper):td :=
 match o.op with
 | .binOp op t x y _=>LK P S.lh t op (S.look ctx x) (S.look ctx y)
 | .slice t x lo hi none=>match oE P t (S.look ctx x) (lo.map (S.look ctx)) (hi.map (S.look ctx)) with
  | some r=>some r
  | none=>match oC P t (S.look ctx x) (lo.map (S.look ctx)) (hi.map (S.look ctx)) with
   | some r=>some r
   | none=>oD P S.lh t (S.look ctx x) (lo.map (S.look ctx)) (hi.map (S.look ctx))
 | .call { callee:=.builtin .cap,args,argTypes }=>match args.toList,argTypes.toList with
  | [x],[t]=>match S.look ctx x with
   | .nils=>if pO P t then some ([],.int .i64 0) else none
   | _=>none
  | _,_=>none
 | _=>none
def FV (P:Program) (ss:Specs) (S:St) (ctx:List (Nat×Bool)) (o:Oper):td :=
 match nQ P ss S ctx o with
 | some r=>some r
 | none=>match sx P S ctx o with
  | some (ps,⟨T,xs⟩)=>some (ps,.sl T xs)
  | none=>match NN P S ctx o with
   | some r=>some r
   | none=>match o.op with
    | .call { callee:=.value (.tmp t),args,.. }=>match S.look ctx (.tmp t) with
     | .fn f c1 c2=>match mX P ss S.lh f ((c1.map fun x=>.loc x.1 x.2)++args.toList.map (S.look ctx)++(c2.map fun x=>.loc x.1 x.2)) with
      | some (q,⟨Rs,x⟩)=>some ([q],Fc Rs x)
      | none=>none
     | _=>none
    | .call { callee:=.value (.func f),args,.. }=>match mX P ss S.lh f (args.toList.map (S.look ctx)) with
     | some (q,⟨Rs,x⟩)=>some ([q],Fc Rs x)
     | none=>none
    | .convert src dst x=>match P.underlying src,P.underlying dst with
     | some (.slice e),some .string=>match P.underlying e with
      | some (.int .u8)=>match ta S.lh (S.look ctx x) with
       | some xs=>some ([],.str (iH xs))
       | none=>none
      | _=>none
     | _,_=>none
    | _=>none
section
variable {M:Nat->Prop} {p0:PH} {w0:World} {S:St} {tm:Array Value} {w:World} {p:PH} {β:Nat->Value} {P:Program} {a:Act}
theorem Blk.In_inj {j k:Blk} {o:Option Go.Obj} (h1:j.In o) (h2:k.In o):j=k:=by
 cases j <;> cases k
 ·obtain ⟨_,_,rfl⟩:=h1;obtain ⟨_,_,e⟩:=h2;injection e with e
  injection e with e
  rw [e]
 ·obtain ⟨_,_,rfl⟩:=h1;cases h2
 ·have h1:o=_:=h1;obtain ⟨_,_,e⟩:=h2;rw [e] at h1;cases h1
 ·have h1:o=some _:=h1;have h2:o=some _:=h2;rw [h1] at h2;injection h2 with e
  injection e with e1 e2
  rw [e1,e2]
theorem SatB.addBlock (hS:SatB M p0 w0 S tm w p β) {g:Nat} {k:Blk} (hg:k.In w.heap[g]?) (h0:w0.heap.size<=g)
  (hfree:∀ d e,S.lh d=some e->e.live=true->b8 (β d)≠some g) :
  PH.le p (fun b=>if b=g then some k else p b)/\SatB M p0 w0 S tm w (fun b=>if b=g then some k else p b) β:=by
 have hle:PH.le p (fun b=>if b=g then some k else p b):=fun b cs h=>by
  by_cases e:b=g
  ·subst e;have:=Blk.In_inj hg (hS.agr b cs h);simp [this]
  ·simpa [e] using h
 refine ⟨hle,hS.more hle (fun b cs h=>?_) (fun b cs h=>?_) (fun d e b hd hl hb=>?_)⟩
 ·by_cases e:b=g
  ·subst e;simp only [if_true,Ps] at h;subst h;exact hg
  ·simp only [e,P5] at h;exact hS.agr b cs h
 ·by_cases e:b=g
  ·subst e;exact .inr (.inl h0)
  ·simp only [e,P5] at h;exact .inl h
 ·have hne:b≠g:=fun e'=>hfree d e hd hl (by rw [hb,e'])
  simp only [hne,P5];exact (hS.owns d e b hd hl hb).2
theorem SatB.addRow (hS:SatB M p0 w0 S tm w p β) {B:Nat} {e:TypeId} {T:Ty} {v:Value} {xs:List T.den} {l:List Value} (hown:w.ownsRow 0 e T.size v xs.length l) (hB:∀ b,b8 v=some b->B<=b) (h0:w0.heap.size<=B)
  (hl:aM (T.holds p) xs l) (hbig:xs.length * T.bytes<=aF) (hfree:∀ d e b,S.lh d=some e->e.live=true->b8 (β d)=some b->b<B) :
  ∃ p',PH.le p p'/\SatB M p0 w0 S tm w p' β/\(Ty.arr T).holds p' xs [v]:=by
 rcases hown.2 with ⟨rfl,hl0⟩ | ⟨g,cap,cur,rfl,_,hcell,hcap,_,hsz,hcur⟩
 ·have:xs=[]:=by
   have:=c6 (fun x cs h=>Ty.holds_length (p:=p) T x cs h) xs l hl;cases xs with
   | nil=>rfl
   | cons x xs =>
    have hp:=Ty.size_pos T;exfalso
    simp_all
  subst this;exact ⟨p,PH.le.refl p,hS,none,0,[],rfl,by simp,by simp,rfl,fun h=>absurd rfl h⟩
 ·obtain ⟨h1,h2⟩:=hS.addBlock (k:=.cells cur) ⟨_,_,hcell⟩ (P9 h0 (hB g rfl)) (fun d e hd hlv hb=>by have:=hfree d e g hd hlv hb; have:=hB g rfl; omega);refine ⟨_,h1,h2,some ⟨g,0,none⟩,cap,l,rfl,hcap,hbig,dx (fun x cs h=>Ty.holds_mono h1 T x cs h) _ _ hl,fun _=>⟨g,0,rfl,fun j u hu=>?_⟩⟩;simp only [PH.cell,if_true,Rh,Qg,Blk.get];rw [<- hcur] at hu;rw [List.getElem?_take] at hu;split at hu
  ·simpa using hu
  ·cases hu
theorem VOK.of_row (hS:SatB M p0 w0 S a.tmps w p β) {o:Oper} {v:Value} {w':World} {e:TypeId} {T:Ty} {xs:List T.den} {l:List Value} (hrun:(execOp a.eval o).run P w=.ok (.value v) w')
  (hg:SatB M p0 w0 S a.tmps w' p β) (hown:w'.ownsRow 0 e T.size v xs.length l) (hB:∀ b,b8 v=some b->w.heap.size<=b) (hl:aM (T.holds p) xs l) (hbig:xs.length * T.bytes<=aF) :
  VOK M p0 w0 S P o a w p β (.sl T xs):=by
 intro K Q hK;obtain ⟨p',h1,h2,h3⟩:=hg.addRow hown hB hS.keep.size hl hbig (fun d e b hd hlv hb=>LE.sat_lt d e hlv (hS.lhs d e hd) hb);unfold Oper.wp;rw [hrun];exact hK v w' p' h2 h1 h3
theorem Dp (hS:SatB M p0 w0 S a.tmps w p β) {ctx:List (Nat×Bool)} (hc:gB ctx a.tmps) {o:Oper} {ps:List Prop} {T:Ty} {xs:List T.den} (h:sx P S ctx o=some (ps,⟨T,xs⟩)) (hps:∀ q∈ps,q) :
  VOK M p0 w0 S P o a w p β (.sl T xs):=by
 have lk:=fun x=>aU hS hc x
 unfold sx at h;split at h
 ·rename_i t l c ho;split at h <;> try cases h
  rename_i hlc;have hl:=lk l;split at h <;> try cases h
  rename_i e he;have hu:=cJ he;split at h <;> try cases h
  rename_i T' hT;split at h <;> try cases h
  rename_i i hi;split at h <;> try cases h
  rename_i z hz;split at h <;> try cases h
  rename_i _ _ y k n hy hav;rw [hav] at hl;split at h <;> simp only [Ps,Pv,reduceCtorEq] at h;rename_i hb;obtain ⟨rfl,h⟩:=h;cases h;obtain ⟨i',z',hi',hsz,hby,hz',hzs⟩:=dB hb;rw [hi] at hi';injection hi' with hi'
  subst hi';rw [hz] at hz';injection hz' with hz'
  subst hz';have h0:0<=n:=hps _ (by simp);have hbig:n.toNat * T.bytes<=aF:=hps _ (by simp);obtain ⟨hle,_⟩:=ca hl;have hrc:a.eval c=.int k n:=by rw [<- oX hlc]; exact hle
  have h8:=fp T;have hn8:n.toNat * 8<=n.toNat * T.bytes:=Qu _ h8;have hnb:n.toNat * i.bytes<=n.toNat * T.bytes:=Qu _ hby
  have hbytes:(i.bytes:Int) * n<=281474976710656:=by
   have:((n.toNat * i.bytes:Nat):Int)=(i.bytes:Int) * n:=by rw [Int.natCast_mul,Rw h0,Int.mul_comm]
   rw [<- this];simp only [aF] at hbig;omega
  have hrun:=run_make (P:=P) w t e i z hu hi hz k k n n h0 (RQ _) hbytes (by simp only [aF] at hbig; omega)
  have hzc:z.cells.toList≠[]:=by
   intro e0;have:z.cells.size=0:=by simpa using congrArg List.length e0
   have:=Ty.size_pos T;omega
  have hyc:T.holds p y z.cells.toList:=by
   have hS0:SatB M p0 w0 { S with lh:=fun _=>none } a.tmps w p β :=
    ⟨hS.keep,hS.agr,hS.old,hS.size,fun d e h=>(by cases h),fun d e b h=>(by cases h),fun d d' e e' b h=>(by cases h),hS.env⟩
   have:=be hS0 (rows:=false) T _ y _ hy (cC _ hzc);simpa using this
  have hcells:(madeCells z.cells (n.toNat * i.size)).toList=(List.replicate n.toNat z.cells.toList).flatten:=by
   have hpos:0<z.cells.size:=by rw [hzs]; exact Ty.size_pos T
   rw [hsz,<- hzs];exact eM z.cells hpos n.toNat
  refine VOK.of_row hS (v:=.slice (some ⟨w.heap.size,0,none⟩) n.toNat n.toNat) (w':=w.alloc (.cells (madeCells z.cells (n.toNat * i.size)) e)) (e:=e) (l:=(madeCells z.cells (n.toNat * i.size)).toList) ?_ (hS.alloc _)
   ⟨by simp [QY,hsz],.inr ⟨w.heap.size,n.toNat,_,by simp,Qa _,QO w _,by simp,?_,by simp [QY,hsz],?_⟩⟩ (fun b hb=>by have h':some w.heap.size=some b:=hb; injection h' with h'; omega) ?_ (by simpa using hbig)
  ·simp only [execOp,ho,PR,hle,hrc,hrun,PL,P2]
  ·simp only [maxLen,aF] at *; omega
  ·rw [PJ];simp [QY,hsz]
  ·rw [hcells];exact d8 hyc _
 ·rename_i t len parts ho;split at h <;> try cases h
  rename_i e he;have hu:=cJ he;split at h <;> try cases h
  rename_i T' hT;split at h <;> try cases h
  rename_i ys hys;split at h <;> simp only [Ps,Pv,reduceCtorEq] at h;rename_i hb;obtain ⟨rfl,h⟩:=h;cases h;simp only [Px] at hb;obtain ⟨⟨⟨hf,hpl⟩,h24⟩,hbg⟩:=hb;have hpl:=Pw hpl;have h24:=PN h24;have hbg:=PN hbg;obtain ⟨i,z,hi,hsz,hby,hz,hzs⟩:=dB hf;have hTp:=Ty.size_pos T
  have hfill:=oB (p:=p) (a:=a) (lh:=S.lh) (ρ:=S.look ctx) (T:=T) rfl (fun x y hy=>by
   have:=cP hS (rows:=false) hy (lk x);simpa using this) parts.toList 0 xs ((Array.range (len * T.size)).map (z.cells[· % z.cells.size]!)) hys (by simp [<- hpl])
  obtain ⟨cs,l,h1,h2,h3,h4⟩:=hfill;simp only [Nat.zero_mul,Q5,P0] at h3;have hll:=c6 (fun x cs h=>Ty.holds_length T x cs h) xs l h2
  have hcs:cs.size=len * T.size:=by
   have:cs.toList.length=l.length:=by rw [h3]
   simp only [QE] at this;rw [this,hll,h4,hpl]
  have hlen:len=xs.length:=by omega
  refine VOK.of_row hS (v:=.slice (some ⟨w.heap.size,0,none⟩) len len) (w':=w.alloc (.cells cs e)) (e:=e) (l:=l) ?_ (hS.alloc _)
   ⟨hll,.inr ⟨w.heap.size,len,cs,by simp [hlen],Qa _,QO w _,by omega,?_,hcs,?_⟩⟩ (fun b hb=>by have h':some w.heap.size=some b:=hb; injection h' with h'; omega) h2 (by rw [<- hlen]; exact hbg)
  ·have hrun:(Instr.buildSlice t len (parts.map fun x=>(x.1,a.eval x.2))).run P w=.ok (.slice (some ⟨w.heap.size,0,none⟩) len len) (w.alloc (.cells cs e)):=by
    have n24:¬ (len * i.size > 2 ^ 24):=by rw [hsz]; omega
    have e2:(parts.map fun x=>(x.1,a.eval x.2)).toList=parts.toList.map fun x=>(x.1,a.eval x.2):=by simp
    by_cases h0:len * i.size=0
    ·have hl0:len=0:=by
      rcases Nat.mul_eq_zero.1 h0 with h | h
      ·exact h
      ·omega
     subst hl0;have hp0:parts.toList=[]:=PO hpl;have hcs0:cs=#[]:=by apply P6.1; rw [h3]; exact PO (by rw [hll,<- hlen]; simp)
     subst hcs0;simp only [Instr.buildSlice,PR,PS hu,PL,sizeOf,typeInfo,Rd,hi,P2,if_neg n24,e2,hp0];simp [Instr.fill,newRow,Array.range_zero']
    ·simp only [Instr.buildSlice,PR,PS hu,PL,sizeOf,typeInfo,Rd,hi,P2,if_neg n24,if_neg h0,zeroValue,hz,e2];rw [hsz,h1];simp [newRow]
   simp only [execOp,ho,PR,hrun,PL,P2]
  ·have:=fp T;have h8:len * 8<=len * T.bytes:=Qu _ this;simp only [maxLen,aF] at *; omega
  ·rw [PJ (by simp [hcs,hlen]),h3]
 ·rename_i args ts ho;split at h <;> try cases h
  rename_i s x t t' ha ht;split at h <;> try cases h
  rename_i htt;have htt:=Pw htt;subst htt;have e1:args=#[s,x]:=by apply P6.1; rw [ha]
  have e2:ts=#[t,t]:=by apply P6.1; rw [ht]
  subst e1;subst e2;split at h <;> try cases h
  rename_i e he;have hu:=cJ he;split at h <;> try cases h
  rename_i T' ys hys;obtain ⟨A,c,l2,e3,h2,h3,h4⟩:=i7 hS hys (lk x);split at h <;> try cases h
  rename_i hf;split at h <;> simp only [Ps,Pv,reduceCtorEq] at h;rename_i hsn;obtain ⟨rfl,h⟩:=h;cases h
  have hs':a.eval s=.slice none 0 0:=by
   have:=lk s;rw [hsn] at this;exact this
  have hbig:=hps _ (PV);obtain ⟨v',w',r1,r2,r3,r4⟩:=lW (ty:=o.type) hu hf (Rp w 0 e T.size) h2 h4 (c:=c) (by simpa using hbig);obtain ⟨cs,hb⟩:=d7 (a:=a) (w:=w) (P:=P) ho;have r2:w'.ownsRow 0 e T.size v' xs.length l2:=by simpa using r2
  refine VOK.of_row hS (v:=v') (w':=w') (e:=e) (l:=l2) ?_ (hS.grow r3.os r3.tape r3.output r3.size (fun b hb=>r3.block b hb (fun e=>by cases e))) r2 (fun b hb=>?_) h2 hbig
  ·rw [hb];simp only [builtin,Rj,Qf,Rq,PR,hs',e3,r1,PL,P2]
  ·rw [dy r2] at hb;rcases r4 with h | h
   ·rw [h] at hb; cases hb
   ·rw [h] at hb; injection hb with hb; omega
 ·cases h
theorem Nw {tm:Array Value} {B:Nat} {r q:PH} (hB:w0.heap.size<=B):∀ (Rs:List RT) (x:eB Rs) (vs:List Value) (bs:List Nat) (p:PH),SatB M p0 w0 S tm w p β->PH.le r p->jp w B r q Rs x vs bs ->
   (∀ d e b,S.lh d=some e->e.live=true->b8 (β d)=some b->b<B)->∃ p',PH.le p p'/\SatB M p0 w0 S tm w p' β/\(o8 Rs x).vals p' β vs:=by
 have one:∀ (R:RT) (x:R.den) (v:Value) (p:PH),SatB M p0 w0 S tm w p β->PH.le r p->R.holds w B r q x v->(∀ d e b,S.lh d=some e->e.live=true->b8 (β d)=some b->b<B) ->
   ∃ p',PH.le p p'/\SatB M p0 w0 S tm w p' β/\(R.avD x).val1 p' β v:=by
  intro R x v p hS hrp hR hfree;cases R with
  | dat T =>
   refine ⟨p,PH.le.refl p,hS,dG (tm:=#[]) ?_⟩;have hR':T.vholds r x v:=hR;unfold Ty.vholds at hR' |-;cases T with
   | pair A C=>obtain ⟨cs,e,hc⟩:=hR'; exact ⟨cs,e,Ty.holds_mono hrp _ _ _ hc⟩
   | int k=>exact Ty.holds_mono hrp (.int k) _ _ hR'
   | bool=>exact Ty.holds_mono hrp .bool _ _ hR'
   | str=>exact Ty.holds_mono hrp .str _ _ hR'
   | arr T=>exact Ty.holds_mono hrp (.arr T) _ _ hR'
   | nil=>exact Ty.holds_mono hrp .nil _ _ hR'
   | ref T=>exact Ty.holds_mono hrp (.ref T) _ _ hR'
   | fn A B=>exact Ty.holds_mono hrp (.fn A B) _ _ hR'
   | map k V=>exact Ty.holds_mono hrp (.map k V) _ _ hR'
  | map k V =>
   obtain ⟨⟨g,es,clock,rfl,hg,h1,h2,h3⟩,_⟩:=hR;obtain ⟨k1,k2⟩:=hS.addBlock (k:=.map es clock) h1 (P9 hB hg) (fun d e hd hlv hb=>by have:=hfree d e g hd hlv hb; omega);exact ⟨_,k1,k2,.inr ⟨g,es,clock,rfl,by simp,cf (fun x _=>dH (fun cs h=>Ty.holds_mono k1 V x cs (Ty.holds_mono hrp V x cs h))) _ _ h3⟩⟩
  | own e T =>
   obtain ⟨⟨l,h1,h2,h3⟩,_⟩:=hR
   have h1':w.ownsRow 0 e T.size v x.length l:=by
    refine ⟨h1.1,?_⟩;rcases h1.2 with h | ⟨g,cap,cur,e1,_,h5⟩
    ·exact .inl h
    ·exact .inr ⟨g,cap,cur,e1,Qa _,h5⟩
   obtain ⟨p',k1,k2,k3⟩:=hS.addRow h1' (B:=B) (fun b hb=>by
    rcases h1.2 with ⟨rfl,_⟩ | ⟨g,cap,cur,rfl,hg,_⟩
    ·cases hb
    ·injection hb with hb; subst hb; exact hg) hB (dx (fun x cs h=>Ty.holds_mono hrp T x cs h) _ _ h2) h3 hfree
   exact ⟨p',k1,k2,k3⟩
 intro Rs
 induction Rs with
 | nil =>
  intro x vs bs p hS _ hR _;have:vs=[]:=hR;subst this;exact ⟨p,PH.le.refl p,hS,trivial⟩
 | cons R Rs ih =>
  intro x vs bs p hS hrp hR hfree;cases Rs with
  | nil =>
   obtain ⟨v,rfl,h1,_⟩:=hR;obtain ⟨p',k1,k2,k3⟩:=one R x v p hS hrp h1 hfree;exact ⟨p',k1,k2,k3,trivial⟩
  | cons U Rs =>
   obtain ⟨v,rest,rfl,h1,_,h3⟩:=hR;obtain ⟨p1,k1,k2,k3⟩:=one R x.1 v p hS hrp h1 hfree;obtain ⟨p2,k4,k5,k6⟩:=ih x.2 rest _ p1 k2 (hrp.trans k1) h3 hfree;exact ⟨p2,k1.trans k4,k5,AV.val1_mono k4 _ _ k3,k6⟩
theorem nR (hS:SatB M p0 w0 S a.tmps w p β) {ss:Specs} (hss:ss.okA P M w0) {f:FuncId} {avs:List AV} {vs:List Value} {q0:Prop} {Rs:List RT} {x:eB Rs}
  (h:mX P ss S.lh f avs=some (q0,⟨Rs,x⟩)) (hq:q0) (hl:vs.length=avs.length) (hv:∀ (i:Nat) a' v,avs[i]?=some a'->vs[i]?=some v->a'.val p β a.tmps v) :
  cT P f=true/\Calls P f vs.toArray w fun e w'=>∃ rs p',e=.returned (cr rs)/\PH.le p p'/\SatB M p0 w0 S a.tmps w' p' β/\(o8 Rs x).vals p' β rs:=by
 unfold mX at h;split at h <;> try cases h
 rename_i hc;split at h <;> try cases h
 rename_i s hs;split at h <;> try cases h
 rename_i y hy;refine ⟨hc,?_⟩;have hargs:=g8 (fun _ _ _ _ h ha=>oQ hS hss h ha) _ _ _ vs hy hl hv
 have hAg:Agrees (if (!s.al)=true then full w else p) w:=by
  split
  ·exact mT w
  ·exact hS.agr
 refine (hss.1.2.1 f s hs _ w vs y (hss.2.1.keep hss.2.2 hS.keep) hAg hargs hq).mono ?_;rintro e w' ⟨rs,q,rfl,hk,hq1,hq2,hres⟩;have hgrow:SatB M p0 w0 S a.tmps w' p β:=hS.grow hk.os hk.tape hk.output hk.size (fun b hb=>hk.block b hb (fun h=>h.elim));have hplt:∀ b cs,p b=some cs->b<w.heap.size:=fun b cs h=>hS.agr.lt h
 have hmore:SatB M p0 w0 S a.tmps w' (p.union q) β:=hgrow.more (eV p q) (jk hgrow.agr hq2) (fun b cs hb=>by
  unfold PH.union at hb;split at hb
  ·rename_i c hc;injection hb with hb
   subst hb;exact .inl hc
  ·exact .inr (.inl (P9 hS.keep.size (hq1 b cs hb)))) (fun d' e' b hd hlv hb=>by
  have h1:=(hS.owns d' e' b hd hlv hb).2;have h2:=LE.sat_lt d' e' hlv (hS.lhs d' e' hd) hb
  have h3:q b=none:=by
   cases hqb:q b with
   | none=>rfl
   | some c=>have:=hq1 b c hqb; omega
  simp [PH.union,h1,h3])
 have hrp:PH.le (if s.al=true then (if (!s.al)=true then full w else p).union q else q) (p.union q):=by
  cases hal:s.al
  ·simp only [PG,P5];exact iN hplt hq1
  ·simp only [RA,PG,P5,if_true];exact PH.le.refl _
 obtain ⟨p',h1,h2,h3⟩:=Nw (P9 hS.keep.size (PP _)) s.Rs (s.F y) rs [] _ hmore hrp hres (fun d' e' b hd hlv hb=>LE.sat_lt d' e' hlv (hS.lhs d' e' hd) hb);exact ⟨rs,p',rfl,(eV p q).trans h1,h2,h3⟩
theorem tX {tm:Array Value} (Rs:List RT) (x:eB Rs) (rs:List Value) (h:(o8 Rs x).vals p β rs):(Fc Rs x).val p β tm (cr rs):=by
 match Rs,x,h with
 | [],x,h=>match rs,h with
  | [],_=>rfl
 | [R],x,h=>match rs,h with
  | [v],h=>exact AV.val_of_val1 (show (R.avD x).val1 p β v from h.1)
 | R::U::Rs,x,h=>match rs,h with
  | v::u::vs,h=>exact ⟨v::u::vs,rfl,h⟩
  | [v],h =>
   have h2:=h.2;cases Rs <;> exact h2.elim
theorem fx (op:BinOp) (t:TypeId) (x y:Operand) (A B:Option Addr) (n c m d:Nat):(eqGuard op t x y (.slice A n c) (.slice B m d)).run P w=.ok () w:=by
 cases op <;> simp [eqGuard]
theorem sU (hS:SatB M p0 w0 S tm w p β) {x:AV} {q:Prop} {v:Value} (h:rj S.lh x=some q) (hx:x.val p β tm v):∃ A n c,v=.slice A n c/\(A=none->q):=by
 have arr:∀ {T:Ty} {xs:List T.den} {v:Value},(Ty.arr T).holds p xs [v]->∃ A n c,v=.slice A n c/\(A=none->xs=[]):=by
  intro T xs v hv;obtain ⟨A,c,l,e,_,_,_,h4⟩:=hv;injection e with e _
  refine ⟨A,_,c,e,fun hA=>Qm fun hne=>?_⟩;obtain ⟨b,o,hb,_⟩:=h4 hne;rw [hA] at hb;cases hb
 unfold rj at h;split at h
 ·injection h with h
  subst h;exact arr hx
 ·split at h
  ·rename_i _ T xs hd;injection h with h
   subst h;have hx':v=β _:=hx;subst hx';obtain ⟨l,h1,h2,_⟩:=hS.lhs _ _ hd;rcases h1.2 with ⟨e,hn⟩ | ⟨g,cap,cur,e,_⟩
   ·exact ⟨none,0,0,e,fun _=>PO hn⟩
   ·exact ⟨_,_,_,e,fun h=>by cases h⟩
  ·rename_i T xs hd;injection h with h
   subst h;have hx':v=β _:=hx;subst hx';exact arr (hS.lhs _ _ hd)
  ·cases h
 ·cases h
theorem Dr (hS:SatB M p0 w0 S tm w p β) {t:TypeId} {op:BinOp} {x y:AV} {ox oy:Operand} {vx vy:Value} {ps:List Prop} {r:AV} (h:LK P S.lh t op x y=some (ps,r)) (hx:x.val p β tm vx) (hy:y.val p β tm vy) :
  cz P (do eqGuard op t ox oy vx vy; binOp op t vx vy) w p β tm r:=by
 unfold LK at h;split at h <;> try cases h
 have hy':vy=.slice none 0 0:=hy;subst hy';split at h <;> try cases h
 rename_i ht;unfold iZ at ht;split at ht <;> try cases ht
 rename_i e hu
 have eq1:∀ (A:Option Addr) (n c:Nat),(binOp .eql t (.slice A n c) (.slice none 0 0)).run P w=.ok (.bool A.isNone) w:=fun A n c=>by
  exact Lib.run_eql_slice_nil w t e A n c 0 0 hu
 have ne1:∀ (A:Option Addr) (n c:Nat),(binOp .neq t (.slice A n c) (.slice none 0 0)).run P w=.ok (.bool (!A.isNone)) w:=fun A n c=>by
  exact run_neq_slice_nil_any w t e A n c 0 0 hu
 split at h
 ·have hx':vx=.slice none 0 0:=hx;subst hx';split at h <;> simp only [Ps,Pv,reduceCtorEq] at h <;> obtain ⟨rfl,rfl⟩:=h
  ·exact ⟨.bool true,by simp only [PR,fx,PL,eq1]; rfl,rfl⟩
  ·exact ⟨.bool false,by simp only [PR,fx,PL,ne1]; rfl,rfl⟩
 ·split at h
  ·rename_i q hq;obtain ⟨A,n,c,rfl,hA⟩:=sU hS hq hx;split at h <;> simp only [Ps,Pv,reduceCtorEq] at h <;> obtain ⟨rfl,rfl⟩:=h
   ·exact ⟨.bool A.isNone,by simp only [PR,fx,PL,eq1],_,rfl,fun h=>hA (by simpa using h),fun _=>trivial⟩
   ·exact ⟨.bool !A.isNone,by simp only [PR,fx,PL,ne1],_,rfl,fun _=>trivial,fun h=>hA (by simpa using h)⟩
  ·cases h
theorem qY (hS:SatB M p0 w0 S tm w p β) {t:TypeId} {x:AV} {lo hi:Option AV} {vx:Value} {vlo vhi:Option Value} {ps:List Prop} {r:AV}
  (h:oD P S.lh t x lo hi=some (ps,r)) (hps:∀ q∈ps,q) (hx:x.val p β tm vx)
  (hlo:(lo=none/\vlo=none)\/∃ a v,lo=some a/\vlo=some v/\a.val p β tm v) (hhi:(hi=none/\vhi=none)\/∃ a v,hi=some a/\vhi=some v/\a.val p β tm v) :
  cz P (Instr.sliceAt t vx vlo vhi none) w p β tm r:=by
 unfold oD at h;split at h <;> try cases h
 rename_i d;split at h <;> try cases h
 rename_i e T xs hd;split at h <;> try cases h
 rename_i hok;obtain ⟨e',inf,hu,hinf,hsz⟩:=fJ hok;have hx':vx=β d:=hx;obtain ⟨l,k1,k2,k3⟩:=hS.lhs d _ hd
 have key:∀ (i j:Nat),i<=j->j<=xs.length->((vlo=none/\i=0)\/∃ k,vlo=some (.int k (i:Int)))->((vhi=none/\j=xs.length)\/∃ k,vhi=some (.int k (j:Int))) ->
   cz P (Instr.sliceAt t vx vlo vhi none) w p β tm (.osl d T i (j - i)):=by
  intro i j hij hj h1 h2;rcases k1.2 with ⟨q1,q2⟩ | ⟨g,cap,cur,q1,_,q3,q4,q4',q5,q6⟩
  ·have h0:xs.length=0:=q2;refine ⟨_,by rw [hx',q1]; exact gN hu hinf hij (len:=0) (cap:=0) (by omega) (PP _) h1 (by rw [h0] at h2; exact h2),?_⟩;refine .inr ⟨by omega,none,0,?_⟩;have hi0:i=0:=by omega
   have hj0:j=0:=by omega
   subst hi0 hj0;rfl
  ·refine ⟨_,by rw [hx',q1]; exact gN hu hinf hij hj q4 h1 h2,?_⟩;by_cases hc:cap=i
   ·exact .inr ⟨by omega,_,cap - i,by rw [if_pos hc,show j - i=0 by omega]⟩
   ·refine .inl ⟨g,_,cap,cap - i,q1,?_⟩;rw [if_neg hc,hsz,Qb,fM,Qg]
 split at h <;> simp only [Ps,Pv,reduceCtorEq] at h <;> obtain ⟨rfl,rfl⟩:=h
 ·obtain rfl:=ig hlo;obtain rfl:=ig hhi;have:=key 0 xs.length (Qa _) (PP _) (.inl ⟨rfl,rfl⟩) (.inl ⟨rfl,rfl⟩);simpa using this
 ·rename_i k a;obtain ⟨v,rfl,ha⟩:=ia hlo;obtain rfl:=ig hhi;have h0:0<=a:=hps _ (by simp);have h1:a<=(xs.length:Int):=hps _ (by simp);exact key a.toNat xs.length (by omega) (PP _) (.inr ⟨k,by rw [eE ha h0]⟩) (.inl ⟨rfl,rfl⟩)
 ·rename_i k b;obtain rfl:=ig hlo;obtain ⟨v,rfl,ha⟩:=ia hhi;have h0:0<=b:=hps _ (by simp);have h1:b<=(xs.length:Int):=hps _ (by simp);have:=key 0 b.toNat (Qa _) (by omega) (.inl ⟨rfl,rfl⟩) (.inr ⟨k,by rw [eE ha h0]⟩);simpa using this
 ·rename_i k a k' b;obtain ⟨v,rfl,ha⟩:=ia hlo;obtain ⟨v',rfl,ha'⟩:=ia hhi;have h0:0<=a:=hps _ (by simp);have h1:a<=b:=hps _ (by simp);have h2:b<=(xs.length:Int):=hps _ (by simp);exact key a.toNat b.toNat (by omega) (by omega) (.inr ⟨k,by rw [eE ha h0]⟩) (.inr ⟨k',by rw [eE ha' (by omega)]⟩)
theorem qZ {t:TypeId} {x:AV} {lo hi:Option AV} {vx:Value} {vlo vhi:Option Value} {ps:List Prop} {r:AV}
  (h:oE P t x lo hi=some (ps,r)) (hps:∀ q∈ps,q) (hx:x.val p β tm vx)
  (hlo:(lo=none/\vlo=none)\/∃ a v,lo=some a/\vlo=some v/\a.val p β tm v) (hhi:(hi=none/\vhi=none)\/∃ a v,hi=some a/\vhi=some v/\a.val p β tm v) :
  cz P (Instr.sliceAt t vx vlo vhi none) w p β tm r:=by
 unfold oE at h;split at h <;> try cases h
 rename_i k b;split at h <;> simp only [Ps,Pv,reduceCtorEq] at h <;> obtain ⟨rfl,rfl⟩:=h;rename_i ht;unfold pO at ht;split at ht <;> try cases ht
 rename_i e hu;obtain ⟨inf,hinf⟩:=Q7.1 ht;have hb0:b=0:=hps _ (by simp);subst hb0;have hxe:vx=.slice none 0 0:=hx;obtain rfl:=ig hlo;obtain ⟨v,rfl,hv⟩:=ia hhi;obtain ⟨hv,_⟩:=ca hv;have hrun:=gN (P:=P) (w:=w) hu hinf (A:=none) (len:=0) (cap:=0) (lo:=none) (hi':=some (.int k ((0:Nat):Int))) (l:=0) (h:=0) (PP _) (PP _) (PP _) (.inl ⟨rfl,rfl⟩) (.inr ⟨k,rfl⟩);refine ⟨.slice none 0 0,?_,rfl⟩;rw [hxe,hv];exact hrun
theorem qX {t:TypeId} {x:AV} {lo hi:Option AV} {vx:Value} {vlo vhi:Option Value} {ps:List Prop} {r:AV}
  (h:oC P t x lo hi=some (ps,r)) (hps:∀ q∈ps,q) (hx:x.val p β tm vx)
  (hlo:(lo=none/\vlo=none)\/∃ a v,lo=some a/\vlo=some v/\a.val p β tm v) (hhi:(hi=none/\vhi=none)\/∃ a v,hi=some a/\vhi=some v/\a.val p β tm v) :
  cz P (Instr.sliceAt t vx vlo vhi none) w p β tm r:=by
 unfold oC at h;split at h <;> try cases h
 rename_i d i n k a;split at h <;> simp only [Ps,Pv,reduceCtorEq] at h <;> obtain ⟨rfl,rfl⟩:=h;rename_i hok;obtain ⟨e,inf,hu,hinf,hsz⟩:=qd hok;obtain ⟨v,rfl,ha⟩:=ia hlo;obtain rfl:=ig hhi;have h0:0<=a:=hps _ (by simp);have h1:a<=(n:Int):=hps _ (by simp);have hv:=eE ha h0;have hx:(∃ b c,β d=.pointer (some ⟨b,0,none⟩)/\n<=c/\vx=.slice (some ⟨b,i,none⟩) n c)\/(n=0/\∃ A c,vx=.slice A 0 c):=hx;rcases hx with ⟨b,c,e1,hnc,rfl⟩ | ⟨rfl,A,c,rfl⟩
 ·refine ⟨_,gN hu hinf (l:=a.toNat) (h:=n) (by omega) (PP _) hnc (.inr ⟨k,by rw [hv]⟩) (.inl ⟨rfl,rfl⟩),?_⟩;by_cases hc:c=a.toNat
  ·exact .inr ⟨by omega,_,c - a.toNat,by rw [if_pos hc,show n - a.toNat=0 by omega]⟩
  ·refine .inl ⟨b,c - a.toNat,e1,by omega,?_⟩;rw [if_neg hc,hsz,Qb,fM,QH]
 ·have ha0:a=0:=by omega
  subst ha0;refine ⟨_,gN hu hinf (l:=0) (h:=0) (PP _) (PP _) (Qa _) (.inr ⟨k,by rw [hv]; rfl⟩) (.inl ⟨rfl,rfl⟩),?_⟩;exact .inr ⟨rfl,_,_,rfl⟩
theorem Jp (hS:SatB M p0 w0 S a.tmps w p β) {ctx:List (Nat×Bool)} (hc:gB ctx a.tmps) {o:Oper} {ps:List Prop} {r:AV} (h:NN P S ctx o=some (ps,r)) (hps:∀ q∈ps,q) :
  VOK M p0 w0 S P o a w p β r:=by
 have lk:=aU hS hc;unfold NN at h;split at h
 ·rename_i op t x y yt ho;exact VOK.of_yields hS (by simp only [execOp,ho]) (Dr (ox:=x) (oy:=y) hS h (lk x) (lk y))
 ·rename_i t x lo hi ho;split at h
  ·rename_i r' hn;injection h with h
   subst h;exact VOK.of_yields hS (by simp only [execOp,ho]; rfl) (qZ hn hps (lk x) (km hS hc lo) (km hS hc hi))
  split at h
  ·rename_i r' hn;injection h with h
   subst h;exact VOK.of_yields hS (by simp only [execOp,ho]; rfl) (qX hn hps (lk x) (km hS hc lo) (km hS hc hi))
  ·exact VOK.of_yields hS (by simp only [execOp,ho]; rfl) (qY hS h hps (lk x) (km hS hc lo) (km hS hc hi))
 ·rename_i args ts ho;split at h <;> try cases h
  rename_i x t ha ht;split at h <;> try cases h
  rename_i hx;split at h <;> simp only [Ps,Pv,reduceCtorEq] at h <;> obtain ⟨rfl,rfl⟩:=h;rename_i ht';unfold pO at ht';split at ht' <;> try cases ht'
  rename_i e hu;have e1:args=#[x]:=by apply P6.1; rw [ha]
  have e2:ts=#[t]:=by apply P6.1; rw [ht]
  subst e1;subst e2;have hxv:=lk x;rw [hx] at hxv;have hxe:a.eval x=.slice none 0 0:=hxv;obtain ⟨cs,hb⟩:=d7 (a:=a) (w:=w) (P:=P) ho;refine VOK.of_run hS (v:=.int .i64 0) ?_ ⟨rfl,by simp [am]⟩;rw [hb];simp [builtin,hxe,Builtin.cap_,PS hu,goInt]
 ·cases h
theorem jE (hS:SatB M p0 w0 S a.tmps w p β) {ss:Specs} (hss:ss.okA P M w0) {ctx:List (Nat×Bool)} (hc:gB ctx a.tmps) {o:Oper} {ps:List Prop} {r:AV} (h:FV P ss S ctx o=some (ps,r)) (hps:∀ q∈ps,q) :
  VOK M p0 w0 S P o a w p β r:=by
 unfold FV at h;split at h
 ·rename_i r' hv;injection h with h
  subst h;exact qW hS hss hc hv hps
 split at h
 ·rename_i ps' T xs hr;simp only [Ps,Pv] at h;obtain ⟨rfl,rfl⟩:=h;exact Dp hS hc hr hps
 split at h
 ·rename_i r' hv;injection h with h
  subst h;exact Jp hS hc hv hps
 split at h
 ·rename_i t args ts ho;split at h <;> try cases h
  rename_i f c1 c2 hav;split at h <;> try cases h
  rename_i q0 Rs x he;have hx:=aU hS hc (.tmp t);rw [hav] at hx;obtain ⟨v1,v2,e1,k1,k2⟩:=hx;obtain ⟨l1,l2⟩:=jB (p:=p) (tm:=a.tmps) c1 v1.toList k1;obtain ⟨l3,l4⟩:=jB (p:=p) (tm:=a.tmps) c2 v2.toList k2;intro K Q hK
  obtain ⟨hcal,hcalls⟩:=nR hS hss he (hps _ (by simp)) (vs:=v1.toList++args.toList.map a.eval++v2.toList) (by simp at l1 l3; simp [l1,l3]) (by
   have app:∀ (as1 as2:List AV) (vs1 vs2:List Value),vs1.length=as1.length->(∀ (i:Nat) a' v,as1[i]?=some a'->vs1[i]?=some v->a'.val p β a.tmps v)->(∀ (i:Nat) a' v,as2[i]?=some a'->vs2[i]?=some v->a'.val p β a.tmps v) ->
     ∀ (i:Nat) a' v,(as1++as2)[i]?=some a'->(vs1++vs2)[i]?=some v->a'.val p β a.tmps v:=by
    intro as1 as2 vs1 vs2 hl h1 h2 i a' v ha hv;rw [List.getElem?_append] at ha hv;split at ha
    ·rw [if_pos (by omega)] at hv; exact h1 i a' v ha hv
    ·rw [if_neg (by omega)] at hv; rw [hl] at hv; exact h2 _ a' v ha hv
   exact app _ _ _ _ (by simp at l1; simp [l1]) (app _ _ _ _ (by simp at l1; simp [l1]) l2 (iJ hS hc args.toList)) l4)
  unfold Oper.wp;rw [qD hcal ho e1];simp only [Rn];have e:(v1.toList++args.toList.map a.eval++v2.toList).toArray=v1++args.map a.eval++v2:=by apply P6.1; simp
  rw [e] at hcalls;refine hcalls.mono ?_;rintro e w' ⟨rs,p',rfl,hle,hS',hv⟩;exact hK _ w' p' hS' hle (tX Rs x rs hv)
 ·rename_i f args ts ho;split at h <;> try cases h
  rename_i q0 Rs x he;intro K Q hK;obtain ⟨hcal,hcalls⟩:=nR hS hss he (hps _ (by simp)) (vs:=args.toList.map a.eval) (by simp) (iJ hS hc args.toList);unfold Oper.wp;rw [mA hcal ho];simp only [Rn];have e:(args.toList.map a.eval).toArray=args.map a.eval:=by rw [<- R3,R6]
  rw [e] at hcalls;refine hcalls.mono ?_;rintro e w' ⟨rs,p',rfl,hle,hS',hv⟩;exact hK _ w' p' hS' hle (tX Rs x rs hv)
 ·rename_i src dst x ho;split at h <;> try cases h
  rename_i e hs hdst;split at h <;> try cases h
  rename_i he;split at h <;> simp only [Ps,Pv,reduceCtorEq] at h <;> obtain ⟨rfl,rfl⟩:=h;rename_i xs hxs;have hx:=aU hS hc x
  have key:∃ A len c l,a.eval x=.slice A len c/\len=xs.length/\l=xs.map (Value.int .u8)/\xs.length * 8<=aF /\
    (xs≠[]->∃ b o,A=some ⟨b,o,none⟩/\∀ (j:Nat) (u:Value),l[j]?=some u->w.cell? ⟨b,o+j,none⟩=some u):=by
   unfold ta at hxs;split at hxs
   ·rename_i hav;rw [hav] at hx;injection hxs with hxs
    subst hxs;exact ⟨none,0,0,[],hx,rfl,rfl,by simp,fun h=>absurd rfl h⟩
   ·split at hxs
    ·rename_i xs' har;injection hxs with hxs
     subst hxs;obtain ⟨A,c,l,e1,h2,h3,h4⟩:=i7 hS har hx;exact ⟨A,_,c,l,e1,rfl,oM _ _ h2,h3,h4⟩
    ·cases hxs
  obtain ⟨A,len,c,l,e1,rfl,rfl,h3,h4⟩:=key
  have hrun:(convert src dst (a.eval x)).run P w=.ok (.string ⟨(iH xs).toArray⟩) w:=by
   rw [e1];by_cases hne:xs=[]
   ·subst hne;cases A with
    | none=>exact run_convert_bytes_nil w src e hs he _ _ dst hdst
    | some ad =>
     have:=run_convert_bytes_string (P:=P) w src dst e (some ad) 0 c hs he hdst;rw [show ([]:List Int).length=0 from rfl,this];have h5:=run_bytesToString (P:=P) w ad 0 c [] (by simp [loadCells,loadCellsFrom]);rw [h5]; rfl
   ·obtain ⟨b,o,rfl,hc⟩:=h4 hne
    have:=run_convert_bytes_arg (P:=P) w src e hs he b o xs.length c xs rfl (fun i hi=>by
     apply hc;simp [List.getD,hi]) dst hdst
    rw [this];simp [strOfNums,iH]
  refine VOK.of_run hS (v:=.string ⟨(iH xs).toArray⟩) ?_ ⟨rfl,by simp only [iH,Qc,aF] at *; omega⟩;simp only [execOp,ho,PR,hrun,PL,P2]
 ·cases h
end
def St.clean (S:St):St:={ S with env:=fun s=>(S.env s).opn [] }
def O7 (ops:Array Oper) (o:Oper):Bool :=
 match o.op,o.dst with
 | .slice _ _ none (some _) none,some d=>ops.toList.all fun o'=>match o'.op with
  | .call c=>!(c.args.toList.any fun x=>match x with
   | .tmp t=>Nat.beq t d
   | _=>false)
  | _=>true
 | _,_=>true
def Ao (P:Program) (ss:Specs) (ops:Array Oper) (o:Oper) (S:St):Option (List Prop×St) :=
 match o.guard with
 | none=>match nQ P ss S [] o,o.dst with
  | some (ps,r),some d=>if Nat.blt d S.n then some (ps,S.set d (r.opn [])) else none
  | _,_=>match (if O7 ops o then Mw P ss S o else none) with
   | some x=>some x
   | none=>match FV P ss S [] o,o.dst with
    | some (ps,r),some d=>if Nat.blt d S.n then some (ps,S.set d (r.opn [])) else none
    | _,_=>none
 | some (j,want)=>match (ops[j]?).bind (·.dst),o.dst with
  | some g,some d=>match FV P ss S (dL S 4 g want) o with
   | some (ps,r)=>if Nat.blt d S.n&&!Nat.beq g d then some (ps.map (Ni (fb S (dL S 4 g want) (dL S 4 g want))),S.set d (.gd g want (r.opn []))) else none
   | none=>none
  | _,_=>none
def run (P:Program) (ss:Specs) (ops:Array Oper):List Oper->St->Option (List Prop×St)
 | [],S=>some ([],S)
 | o::os,S=>match Ao P ss ops o S with
  | some (ps,S1)=>match run P ss ops os S1 with
   | some (qs,S2)=>some (ps++qs,S2)
   | none=>none
  | none=>none
section
variable {M:Nat->Prop} {p0:PH} {w0:World} {S:St} {w:World} {p:PH} {β:Nat->Value} {P:Program} {a:Act}
theorem qQ:∀ (qs:List Prop) (q:Prop),Ni qs q->(∀ x∈qs,x)->q
 | [],_,h,_=>h
 | x::qs,q,h,hx=>qQ qs q (h (hx x (by simp))) (fun y hy=>hx y (by simp [hy]))
theorem kP (hS:SatB M p0 w0 S a.tmps w p β):∀ (n g:Nat) (b:Bool),a.tmps.getD g undef=.bool b->gB (dL S n g b) a.tmps
 | 0,g,b,h=>by
  intro c hc;simp only [dL,PB] at hc;subst hc;exact h
 | n+1,g,b,h=>by
  intro c hc;simp only [dL,PD] at hc;rcases hc with rfl | hc
  ·exact h
  ·split at hc
   ·rename_i g2 w2 x hg;have:=hS.env g;rw [hg] at this;rcases this with ⟨h1,_⟩ | ⟨_,h2⟩
    ·exact kP hS n g2 w2 h1 c hc
    ·rw [h] at h2; cases h2
   ·cases hc
theorem je (hS:SatB M p0 w0 S a.tmps w p β) {ctx:List (Nat×Bool)} (hc:gB ctx a.tmps):∀ (cs:List (Nat×Bool)),gB cs a.tmps->∀ q∈fb S ctx cs,q
 | [],_,q,hq=>by cases hq
 | (g,b)::cs,h,q,hq=>by
  have ih:=je hS hc cs (fun c hc=>h c (by simp [hc]));simp only [fb] at hq;split at hq
  ·rename_i b' hb;rcases PD.1 hq with rfl | hq
   ·have h1:=h (g,b) (by simp);have h2:=cZ hc _ _ (hS.env g);rw [hb] at h2;have h2':a.tmps.getD g undef=.bool b':=h2;rw [h1] at h2';injection h2' with h2'
    exact h2'.symm
   ·exact ih q hq
  ·exact ih q hq
theorem j9 {ops:Array Oper} {o:Oper} {j g:Nat} {b:Bool} (ho:o.guard=some (j,b)) (hg:(ops[j]?).bind (·.dst)=some g) (tm:Array Value) :
  Region.wanted o (yielded ops tm)=true ↔ tm.getD g undef=.bool b:=by
 simp only [Region.wanted,ho,yielded,hg,Rh];cases h:tm[g]? with
 | none =>
  have:tm.getD g undef=undef:=by simp [h]
  rw [this];simp [undef]
 | some v =>
  have:tm.getD g undef=v:=by simp [h]
  rw [this];cases v <;> simp
theorem Sat.set_undef (hS:SatB M p0 w0 S a.tmps w p β) {d g:Nat} {b:Bool} {r:AV} (hd:d<S.n) (hgd:g≠d) (h:a.tmps.getD g undef≠.bool b) :
  SatB M p0 w0 (S.set d (.gd g b r)) (a.tmps.setIfInBounds d undef) w p β :=
 hS.set hd (.inr ⟨by rw [dO hgd]; exact h,rfl⟩)
theorem u9 {ss:Specs} (hss:ss.okA P M w0) {ops:Array Oper} {Q:Exit->Act->World->Prop} {o:Oper} {os:List Oper} {S S1:St} {ps1:List Prop} {a:Act} {w:World} (h1:Ao P ss ops o S=some (ps1,S1)) (hp1:∀ q∈ps1,q)
  (hS:Sat M p0 w0 S a.tmps w) (next:∀ a' w',Sat M p0 w0 S1 a'.tmps w'->a'.defers=a.defers->wpList P ops Q os a' w'):wpList P ops Q (o::os) a w:=by
 obtain ⟨p,β,hB⟩:=hS;unfold Ao at h1;split at h1
 ·rename_i hg;refine wpList_plain hg (fun K hK=>?_);have nextK:∀ a' w',Sat M p0 w0 S1 a'.tmps w'->a'.defers=a.defers->K a' w':=fun a' w' hS' hd=>hK a' w' (next a' w' hS' hd)
  split at h1
  ·rename_i ps' r d hv hd;split at h1 <;> simp only [Ps,Pv,reduceCtorEq] at h1 <;> obtain ⟨rfl,rfl⟩:=h1;rename_i hdn;refine qW hB hss (aN _) hv hp1 K Q (fun v w' p' hS' hle hr=>?_);rw [hd];exact nextK _ w' ⟨p',β,hS'.set (dc hdn) (fe (cm _ _) (cZ (aN _) _ _ hr))⟩ rfl
  ·split at h1
   ·rename_i x hx;injection h1 with h1
    subst h1;split at hx <;> try cases hx
    exact re hB hss hx hp1 K Q nextK
   ·split at h1 <;> try cases h1
    rename_i ps' r d hv hd;split at h1 <;> simp only [Ps,Pv,reduceCtorEq] at h1 <;> obtain ⟨rfl,rfl⟩:=h1;rename_i hdn;refine jE hB hss (aN _) hv hp1 K Q (fun v w' p' hS' hle hr=>?_);rw [hd];exact nextK _ w' ⟨p',β,hS'.set (dc hdn) (fe (cm _ _) (cZ (aN _) _ _ hr))⟩ rfl
 ·rename_i j b hg;split at h1 <;> try cases h1
  rename_i g d hgj hd;split at h1 <;> try cases h1
  rename_i ps' r hv;split at h1 <;> simp only [Ps,Pv,reduceCtorEq] at h1 <;> obtain ⟨rfl,rfl⟩:=h1;rename_i hb;simp only [Px,PX] at hb;have hdn:=dc hb.1;have hgd:g≠d:=by intro e; subst e; simp at hb
  refine wpList_step (fun K hK=>?_);have nextK:∀ a' w',Sat M p0 w0 (S.set d (.gd g b (r.opn []))) a'.tmps w'->a'.defers=a.defers->K a' w':=fun a' w' hS' hd=>hK a' w' (next a' w' hS' hd)
  split
  ·rename_i hw;have htm:=(j9 hg hgj a.tmps).1 hw;have hctx:=kP hB 4 g b htm;refine jE hB hss hctx hv (fun q hq=>?_) K Q (fun v w' p' hS' hle hr=>?_)
   ·exact qQ _ q (hp1 _ (P3.2 ⟨q,hq,rfl⟩)) (je hB hctx _ hctx)
   ·rw [hd];refine nextK _ w' ⟨p',β,hS'.set hdn (.inl ⟨?_,fe (cm _ _) (cZ (aN _) _ _ hr)⟩)⟩ rfl;rw [dO hgd]; exact htm
  ·rename_i hw;have htm:a.tmps.getD g undef≠.bool b:=fun e=>hw ((j9 hg hgj a.tmps).2 e)
   rw [hd];exact nextK _ w ⟨p,β,Sat.set_undef hB hdn hgd htm⟩ rfl
theorem k9 {ss:Specs} (hss:ss.okA P M w0) {ops:Array Oper} {Q:Exit->Act->World->Prop}:∀ (os:List Oper) (S S':St) (ps:List Prop) (a:Act) (w:World),run P ss ops os S=some (ps,S')->(∀ q∈ps,q) ->
  Sat M p0 w0 S a.tmps w->(∀ a' w',Sat M p0 w0 S' a'.tmps w'->a'.defers=a.defers->Q .normal a' w')->wpList P ops Q os a w
 | [],S,S',ps,a,w,h,_,hS,hQ=>by
  simp only [run,Ps,Pv] at h;obtain ⟨_,rfl⟩:=h;exact wpList_nil (hQ a w hS rfl)
 | o::os,S,S',ps,a,w,h,hps,hS,hQ=>by
  simp only [run] at h;split at h <;> try cases h
  rename_i ps1 S1 h1;split at h <;> simp only [Ps,Pv,reduceCtorEq] at h <;> obtain ⟨rfl,rfl⟩:=h;rename_i ps2 S2 h2;have hp1:∀ q∈ps1,q:=fun q hq=>hps q (PE _ hq)
  have hp2:∀ q∈ps2,q:=fun q hq=>hps q (PK _ hq)
  exact u9 hss h1 hp1 hS (fun a' w' hS' hd=>k9 hss os S1 S2 ps2 a' w' h2 hp2 hS' (fun a'' w'' h3 h4=>hQ a'' w'' h3 (h4.trans hd)))
theorem em {tm:Array Value} (h:Sat M p0 w0 S tm w):Sat M p0 w0 S.clean tm w:=by
 obtain ⟨p,β,hB⟩:=h;exact ⟨p,β,hB.keep,hB.agr,hB.old,hB.size,hB.lhs,hB.owns,hB.inj,fun s=>cZ (aN _) _ _ (hB.env s)⟩
end
section
variable {P:Program} {ss:Specs} {S S':St}
theorem lO {lh:Nat->Option LE} {fs:Array Field} {ρ ρ':Operand->AV}:∀ (ps:List (Nat×Operand)) (c:AV),(∀ y∈ps,ρ' y.2=ρ y.2)->iE P lh fs ρ' ps c=iE P lh fs ρ ps c
 | [],_,_=>rfl
 | (i,x)::ps,c,h=>by
  have h1:=h (i,x) (by simp);simp only at h1;simp only [iE,h1];split
  ·rfl
  ·split
   ·rfl
   ·split
    ·rfl
    ·split
     ·exact lO ps _ (fun y hy=>h y (by simp [hy]))
     ·rfl
theorem wP {lh:Nat->Option LE} {t:TypeId} {ρ ρ':Operand->AV} {ps:List (Nat×Operand)} (h:∀ y∈ps,ρ' y.2=ρ y.2):nq P lh t ps ρ'=nq P lh t ps ρ:=by
 unfold nq;split
 ·rfl
 ·split
  ·split
   ·split
    ·rw [lO ps _ h]
    ·rw [lO ps _ h]
    ·rfl
   ·rfl
  ·rfl
theorem Jr {ctx:List (Nat×Bool)} {o:Oper} (hl:S'.lh=S.lh) (h:∀ x∈o.op.operands,S'.val x=S.val x):nQ P ss S' ctx o=nQ P ss S ctx o:=by
 have hk:∀ x∈o.op.operands,∀ c,S'.look c x=S.look c x:=fun x hx c=>by unfold St.look; rw [h x hx]
 obtain ⟨dst,op,type,pos,after,guard⟩:=o;simp only at h hk;cases op with
 | move x=>simp only [nQ,hk x (by simp [Op.operands])]
 | assign x=>simp only [nQ,hk x (by simp [Op.operands])]
 | binOp op t x y yt=>simp only [nQ,hl,hk x (by simp [Op.operands]),hk y (by simp [Op.operands])]
 | unOp op t x=>simp only [nQ,hk x (by simp [Op.operands])]
 | convert a b x=>simp only [nQ,hk x (by simp [Op.operands])]
 | load t x=>simp only [nQ,hl,hk x (by simp [Op.operands])]
 | fieldAddr s x i=>simp only [nQ,hk x (by simp [Op.operands])]
 | field s x i=>simp only [nQ,hk x (by simp [Op.operands])]
 | indexAddr t x i=>simp only [nQ,hl,hk x (by simp [Op.operands]),hk i (by simp [Op.operands])]
 | index t x i=>simp only [nQ,hk x (by simp [Op.operands]),hk i (by simp [Op.operands])]
 | slice t x lo hi mx =>
  cases mx with
  | none =>
   have h1:lo.map (S'.look ctx)=lo.map (S.look ctx):=by
    cases lo with
    | none=>rfl
    | some l=>simp only [Qb,hk l (by simp [Op.operands])]
   have h2:hi.map (S'.look ctx)=hi.map (S.look ctx):=by
    cases hi with
    | none=>rfl
    | some l=>simp only [Qb,hk l (by simp [Op.operands])]
   simp only [nQ,hl,hk x (by simp [Op.operands]),h1,h2]
  | some m=>rfl
 | extract x n=>simp only [nQ,hk x (by simp [Op.operands])]
 | build t parts =>
  simp only [nQ,hl];split
  ·exact wP (fun y hy=>hk y.2 (by simp only [Op.operands,List.mem_toArray,P3]; exact ⟨y,hy,rfl⟩) ctx)
  ·rfl
 | pick c x y =>
  cases c with
  | tmp g=>simp only [nQ,hk (.tmp g) (by simp [Op.operands]),hk x (by simp [Op.operands]),hk y (by simp [Op.operands])]
  | _=>rfl
 | call c =>
  obtain ⟨callee,args,argTypes⟩:=c;have hargs:args.toList.map (S'.look ctx)=args.toList.map (S.look ctx):=QW fun x hx=>hk x (by simp only [Op.operands,Call.operands,Rk]; exact .inr (by simpa using hx)) ctx
  have hmem:∀ x∈args.toList,S'.look ctx x=S.look ctx x:=fun x hx=>hk x (by simp only [Op.operands,Call.operands,Rk]; exact .inr (by simpa using hx)) ctx
  cases callee with
  | value f =>
   cases f with
   | func f=>simp only [nQ,hl,hargs]
   | tmp t =>
    have ht:=hk (.tmp t) (by simp [Op.operands,Call.operands]) ctx;simp only [nQ,hl,ht];split
    ·split
     ·rfl
     ·split
      ·rename_i x e;rw [hmem x (by rw [e]; simp)]
      ·rfl
    ·rfl
   | _=>rfl
  | invoke r m=>rfl
  | builtin b =>
   cases b <;> first
    | rfl
    | (simp only [nQ,hl]
       split
       ·rename_i x t e _;rw [hmem x (by rw [e]; simp)]
       ·rfl)
    | (simp only [nQ]
       split
       ·rename_i x xs e;rw [e] at hargs hmem;rw [hmem x (by simp)];have h9:xs.map (S'.look ctx)=xs.map (S.look ctx):=by simpa [hmem x (by simp)] using hargs
        rw [h9]
       ·rfl)
 | lookup t m x ok=>simp only [nQ,hl,hk m (by simp [Op.operands]),hk x (by simp [Op.operands])]
 | entry x=>simp only [nQ,hl,hk x (by simp [Op.operands])]
 | nilCheck x=>simp only [nQ,hk x (by simp [Op.operands])]
 | makeFunc f first caps =>
  have h1:first.toList.map (S'.look ctx)=first.toList.map (S.look ctx):=QW fun x hx=>hk x (by simp only [Op.operands,Rk]; exact .inl (by simpa using hx)) ctx
  have h2:caps.toList.map (S'.look ctx)=caps.toList.map (S.look ctx):=QW fun x hx=>hk x (by simp only [Op.operands,Rk]; exact .inr (by simpa using hx)) ctx
  cases f with
  | func f=>simp only [nQ,h1,h2]
  | _=>rfl
 | _=>rfl
theorem mF {lh:Nat->Option LE} {T:Ty} {ρ ρ':Operand->AV}:∀ (ps:List (Nat×Operand)) (k:Nat),(∀ y∈ps,ρ' y.2=ρ y.2)->fF lh T ρ' k ps=fF lh T ρ k ps
 | [],_,_=>rfl
 | (i,x)::ps,k,h=>by
  have h1:=h (i,x) (by simp);simp only at h1;have ih:=mF (lh:=lh) (T:=T) ps (k+1) (fun y hy=>h y (by simp [hy]));simp only [fF,h1,ih]
theorem Dq {ctx:List (Nat×Bool)} {o:Oper} (hl:S'.lh=S.lh) (h:∀ x∈o.op.operands,S'.val x=S.val x):sx P S' ctx o=sx P S ctx o:=by
 have hk:∀ x∈o.op.operands,∀ c,S'.look c x=S.look c x:=fun x hx c=>by unfold St.look; rw [h x hx]
 obtain ⟨dst,op,type,pos,after,guard⟩:=o;simp only at h hk;cases op with
 | makeSlice t l c=>simp only [sx,hk l (by simp [Op.operands])]
 | buildSlice t len parts =>
  simp only [sx,hl]
  have:∀ T:Ty,fF S.lh T (S'.look ctx) 0 parts.toList=fF S.lh T (S.look ctx) 0 parts.toList:=fun T =>
   mF _ _ (fun y hy=>hk y.2 (by simp only [Op.operands,List.mem_toArray,P3]; first | exact ⟨y,hy,rfl⟩ | (simp only [Array.mem_map]; exact ⟨y,by simpa using hy,rfl⟩)) ctx)
  simp only [this]
 | call c =>
  obtain ⟨callee,args,argTypes⟩:=c;have hmem:∀ x∈args.toList,S'.look ctx x=S.look ctx x:=fun x hx=>hk x (by simp only [Op.operands,Call.operands,Rk]; exact .inr (by simpa using hx)) ctx
  cases callee with
  | builtin b =>
   cases b <;> first
    | rfl
    | (simp only [sx,hl]
       split
       ·rename_i s x t t' e _;rw [hmem s (by rw [e]; simp),hmem x (by rw [e]; simp)]
       ·rfl)
  | _=>rfl
 | _=>rfl
theorem Jq {ctx:List (Nat×Bool)} {o:Oper} (hl:S'.lh=S.lh) (h:∀ x∈o.op.operands,S'.val x=S.val x):NN P S' ctx o=NN P S ctx o:=by
 have hk:∀ x∈o.op.operands,∀ c,S'.look c x=S.look c x:=fun x hx c=>by unfold St.look; rw [h x hx]
 obtain ⟨dst,op,type,pos,after,guard⟩:=o;simp only at h hk;cases op with
 | binOp op t x y yt=>simp only [NN,hl,hk x (by simp [Op.operands]),hk y (by simp [Op.operands])]
 | slice t x lo hi mx =>
  cases mx with
  | none =>
   have h1:lo.map (S'.look ctx)=lo.map (S.look ctx):=by
    cases lo with
    | none=>rfl
    | some l=>simp only [Qb,hk l (by simp [Op.operands])]
   have h2:hi.map (S'.look ctx)=hi.map (S.look ctx):=by
    cases hi with
    | none=>rfl
    | some l=>simp only [Qb,hk l (by simp [Op.operands])]
   simp only [NN,hl,hk x (by simp [Op.operands]),h1,h2]
  | some m=>rfl
 | call c =>
  obtain ⟨callee,args,argTypes⟩:=c;have hmem:∀ x∈args.toList,S'.look ctx x=S.look ctx x:=fun x hx=>hk x (by simp only [Op.operands,Call.operands,Rk]; exact .inr (by simpa using hx)) ctx
  cases callee with
  | builtin b =>
   cases b <;> first
    | rfl
    | (simp only [NN]
       split
       ·rename_i x t e _;rw [hmem x (by rw [e]; simp)]
       ·rfl)
  | _=>rfl
 | _=>rfl
theorem rh {ctx:List (Nat×Bool)} {o:Oper} (hl:S'.lh=S.lh) (h:∀ x∈o.op.operands,S'.val x=S.val x):FV P ss S' ctx o=FV P ss S ctx o:=by
 have hk:∀ x∈o.op.operands,∀ c,S'.look c x=S.look c x:=fun x hx c=>by unfold St.look; rw [h x hx]
 unfold FV;rw [Jr hl h,Dq hl h,Jq hl h];split
 ·rfl
 split
 ·rfl
 split
 ·rfl
 obtain ⟨dst,op,type,pos,after,guard⟩:=o;simp only at h hk;cases op with
 | convert a b x=>simp only [hl,hk x (by simp [Op.operands])]
 | call c =>
  obtain ⟨callee,args,argTypes⟩:=c;have hargs:args.toList.map (S'.look ctx)=args.toList.map (S.look ctx):=QW fun x hx=>hk x (by simp only [Op.operands,Call.operands,Rk]; exact .inr (by simpa using hx)) ctx
  cases callee with
  | value f =>
   cases f with
   | func f=>simp only [hl,hargs]
   | tmp t =>
    have ht:=hk (.tmp t) (by simp [Op.operands,Call.operands]) ctx;simp only [hl,ht,hargs]
   | _=>rfl
  | _=>rfl
 | _=>rfl
end
def lk:List (Nat×AV)->Nat->Option AV
 | [],_=>none
 | (d,a)::rs,s=>bif Nat.beq s d then some a else lk rs s
def gK (S:St) (rs:List (Nat×AV)):St:={ S with env:=fun s=>match lk rs s with | some a=>a | none=>S.env s }
def G9 (P:Program) (ss:Specs) (ops:Array Oper) (S:St) (o:Oper):Option (List Prop×Nat×AV) :=
 match o.dst with
 | none=>none
 | some d=>match o.guard with
  | none=>match FV P ss S [] o with
   | some (ps,r)=>some (ps,d,r.opn [])
   | none=>none
  | some (j,b)=>match (ops[j]?).bind (·.dst) with
   | some g=>match FV P ss S (dL S 4 g b) o with
    | some (ps,r)=>some (ps.map (Ni (fb S (dL S 4 g b) (dL S 4 g b))),d,.gd g b (r.opn []))
    | none=>none
   | none=>none
def zB (P:Program) (ss:Specs) (ops:Array Oper) (S:St):List Oper->List (Nat×AV)->Option (List Prop×List (Nat×AV))
 | [],rs=>some ([],rs)
 | o::os,rs=>match G9 P ss ops (gK S rs) o with
  | some (ps,d,r)=>if Nat.blt d S.n then (match zB P ss ops S os (rs++[(d,r)]) with
    | some (qs,rs')=>some (ps++qs,rs')
    | none=>none) else none
  | none=>none
def mask (L:Nat->Bool):Nat->List (Nat×AV)->List (Nat×AV)
 | _,[]=>[]
 | i,(d,a)::rs=>(d,bif L i then a else .any)::mask L (i+1) rs
def bq (o:Oper):List Nat:=o.after.toList.filterMap fun e=>if Region.binds .any e then some e.on else none
def vr (ops:Array Oper) (j:Nat):Option Nat:=(ops[j]?).bind (·.dst)
def M1 (ops:Array Oper) (k i:Nat) (o:Oper):Bool :=
 (bq o).all (fun e=>Nat.blt e i) &&
 (o.op.operands.toList.all fun x=>match x with
  | .tmp t=>(List.range k).all fun j=>match vr ops j with
   | some d=>!Nat.beq d t||(bq o).contains j
   | none=>true
  | _=>true) &&
 (match o.guard with
  | some (j,_)=>(bq o).contains j
  | none=>true)
def A2:List Oper->List Nat->List Nat
 | [],acc=>acc
 | o::os,acc=>A2 os (acc++[(bq o).foldl (fun m e=>m ||| (1 <<< e) ||| acc.getD e 0) 0])
def f9:List Nat->Bool
 | []=>true
 | d::ds=>ds.all (fun e=>!Nat.beq e d)&&f9 ds
section
variable {P:Program} {ss:Specs} {ops:Array Oper} {S:St}
theorem pE (L:Nat->Bool):∀ (k:Nat) (rs:List (Nat×AV)) (i:Nat),(mask L k rs)[i]?=rs[i]?.map fun x=>(x.1,bif L (k+i) then x.2 else .any)
 | _,[],_=>by simp [mask]
 | k,(d,a)::rs,0=>by simp [mask]
 | k,(d,a)::rs,i+1=>by
  simp only [mask,List.getElem?_cons_succ];rw [pE L (k+1) rs i];congr 1;funext x;rw [show k+1+i=k+(i+1) by omega]
theorem dW {a b:Nat} (h:a≠b):Nat.beq a b=false:=by
 cases hb:Nat.beq a b
 ·rfl
 ·exact absurd (Pw hb) h
def Once (rs:List (Nat×AV)):Prop:=∀ (i j s:Nat) (a b:AV),rs[i]?=some (s,a)->rs[j]?=some (s,b)->i=j
theorem FH:∀ (rs:List (Nat×AV)) (i s:Nat) (a:AV),Once rs->rs[i]?=some (s,a)->lk rs s=some a
 | [],_,_,_,_,h=>by simp at h
 | (d,b)::rs,0,s,a,_,h=>by
  simp only [List.getElem?_cons_zero,Ps,Pv] at h;obtain ⟨rfl,rfl⟩:=h;simp [lk]
 | (d,b)::rs,i+1,s,a,ho,h=>by
  have hne:s≠d:=by
   intro e;subst e;have:=ho 0 (i+1) s b a (by simp) h;omega
  have hb:Nat.beq s d=false:=dW hne;simp only [lk,hb,PF];refine FH rs i s a (fun i' j' s' a' b' h1 h2=>?_) (by simpa using h);have:=ho (i'+1) (j'+1) s' a' b' (by simpa using h1) (by simpa using h2);omega
theorem pG:∀ (rs:List (Nat×AV)) (s:Nat),(∀ (i:Nat) a,rs[i]?≠some (s,a))->lk rs s=none
 | [],_,_=>rfl
 | (d,b)::rs,s,h=>by
  have hne:s≠d:=by
   intro e;subst e;exact h 0 b (by simp)
  have hb:Nat.beq s d=false:=dW hne;simp only [lk,hb,PF];exact pG rs s (fun i a e=>h (i+1) a (by simpa using e))
theorem qF:∀ (os:List Oper) (rs0 rs:List (Nat×AV)) (ps:List Prop),zB P ss ops S os rs0=some (ps,rs) ->
  ∃ rs1,rs=rs0++rs1/\rs1.length=os.length/\∀ (i:Nat) o,os[i]?=some o->∃ qs d r,rs1[i]?=some (d,r)/\G9 P ss ops (gK S (rs0++rs1.take i)) o=some (qs,d,r)/\d<S.n/\∀ q∈qs,q∈ps
 | [],rs0,rs,ps,h=>by
  simp only [zB,Ps,Pv] at h;obtain ⟨_,rfl⟩:=h;exact ⟨[],by simp,rfl,fun i o h=>by simp at h⟩
 | o::os,rs0,rs,ps,h=>by
  unfold zB at h;split at h <;> try cases h
  rename_i qs d r he;split at h <;> try cases h
  rename_i hd;split at h <;> simp only [Ps,Pv,reduceCtorEq] at h;obtain ⟨rfl,rfl⟩:=h;rename_i ps2 rs2 h2;obtain ⟨rs1,rfl,hl,hi⟩:=qF os _ _ _ h2;refine ⟨(d,r)::rs1,by simp,by simp [hl],fun i o' ho=>?_⟩;cases i with
  | zero =>
   simp only [List.getElem?_cons_zero,Ps] at ho;subst ho;exact ⟨qs,d,r,by simp,by simpa using he,dc hd,fun q hq=>PE _ hq⟩
  | succ i =>
   obtain ⟨qs',d',r',k1,k2,k3,k4⟩:=hi i o' (by simpa using ho);refine ⟨qs',d',r',by simpa using k1,?_,k3,fun q hq=>PK _ (k4 q hq)⟩;simpa using k2
theorem s7 {o:Oper} {S:St} {qs:List Prop} {d:Nat} {r:AV} (h:G9 P ss ops S o=some (qs,d,r)):o.dst=some d:=by
 unfold G9 at h;split at h <;> try cases h
 rename_i d' hd;split at h
 ·split at h <;> simp only [Ps,Pv,reduceCtorEq] at h;rw [hd,h.2.1]
 ·split at h <;> try cases h
  split at h <;> simp only [Ps,Pv,reduceCtorEq] at h;rw [hd,h.2.1]
theorem yq {o:Oper} {S:St} {qs:List Prop} {d:Nat} {r:AV} (h:G9 P ss ops S o=some (qs,d,r)) :
  r.noGd=true\/∃ j b g x,o.guard=some (j,b)/\vr ops j=some g/\r=.gd g b x/\x.noGd=true:=by
 unfold G9 at h;split at h <;> try cases h
 split at h
 ·split at h <;> simp only [Ps,Pv,reduceCtorEq] at h;left;rw [<- h.2.2];exact cm _ _
 ·rename_i j b hg;split at h <;> try cases h
  rename_i g hj;split at h <;> simp only [Ps,Pv,reduceCtorEq] at h;right;exact ⟨j,b,g,_,hg,hj,h.2.2.symm,cm _ _⟩
end
def eU (ops:Array Oper):List Nat:=A2 ops.toList []
def LV (ops:Array Oper) (k:Nat):Bool :=
 Nat.ble k ops.size &&
 ((List.range ops.size).all fun i=>match ops[i]? with
  | some o=>if Nat.blt i k then M1 ops k i o else (bq o).all (fun e=>Nat.blt e i)&&(List.range i).all (fun j=>((eU ops).getD i 0).testBit j)
  | none=>false) &&
 f9 ((ops.toList.take k).filterMap (·.dst))
section
variable {ops:Array Oper}
theorem yl (A:Nat->Nat):∀ (l:List Nat) (m j:Nat),(l.foldl (fun m e=>m ||| (1 <<< e) ||| A e) m).testBit j=true->m.testBit j=true\/∃ e∈l,e=j\/(A e).testBit j=true
 | [],m,j,h=>.inl h
 | e::l,m,j,h=>by
  simp only [Q1] at h;rcases yl A l _ j h with h1 | ⟨e',he,h1⟩
  ·simp only [Nat.testBit_or,Qq] at h1;rcases h1 with (h1 | h1) | h1
   ·exact .inl h1
   ·right;refine ⟨e,by simp,.inl ?_⟩;rw [Nat.one_shiftLeft,Nat.testBit_two_pow] at h1;simpa using h1
   ·exact .inr ⟨e,by simp,.inr h1⟩
  ·exact .inr ⟨e',by simp [he],h1⟩
theorem nV:∀ (os:List Oper) (acc:List Nat),∃ new,A2 os acc=acc++new/\new.length=os.length /\
  ∀ (i:Nat) o,os[i]?=some o->new[i]?=some ((bq o).foldl (fun m e=>m ||| (1 <<< e) ||| (acc++new.take i).getD e 0) 0)
 | [],acc=>⟨[],by simp [A2],rfl,fun i o h=>by simp at h⟩
 | o::os,acc=>by
  obtain ⟨new,h1,h2,h3⟩:=nV os (acc++[(bq o).foldl (fun m e=>m ||| (1 <<< e) ||| acc.getD e 0) 0]);refine ⟨(bq o).foldl (fun m e=>m ||| (1 <<< e) ||| acc.getD e 0) 0::new,by rw [A2,h1,PT]; rfl,by simp [h2],fun i o' ho=>?_⟩;cases i with
  | zero =>
   simp only [List.getElem?_cons_zero,Ps] at ho;subst ho;simp
  | succ i =>
   have:=h3 i o' (by simpa using ho);simpa using this
theorem kV {L:Nat->Prop} (hd:∀ i o,L i->ops[i]?=some o->∀ e∈bq o,L e) (hL:∀ i,L i->i<ops.size) :
  ∀ (i:Nat) (o:Oper),ops[i]?=some o->(∀ e∈bq o,L e)->∀ j,((eU ops).getD i 0).testBit j=true->L j:=by
 intro i
 induction i using Nat.strongRecOn with
 | _ i ih =>
  intro o ho he j hj;obtain ⟨new,h1,h2,h3⟩:=nV ops.toList [];have h4:=h3 i o (by simpa using ho);simp only [P0] at h4 h1
  have e1:(eU ops).getD i 0=(bq o).foldl (fun m e=>m ||| (1 <<< e) ||| (new.take i).getD e 0) 0:=by
   unfold eU;rw [h1,List.getD_eq_getElem?_getD,h4];rfl
  rw [e1] at hj;rcases yl _ _ _ _ hj with h | ⟨e,hem,h⟩
  ·simp at h
  ·rcases h with rfl | h
   ·exact he e hem
   ·have hei:e<i:=by
     rcases PU e i with h' | h'
     ·exact h'
     ·have:(new.take i).getD e 0=0:=by
       rw [List.getD_eq_getElem?_getD,List.getElem?_take,if_neg (by omega)];rfl
      rw [this] at h;simp at h
    have hLe:=he e hem;have hes:=hL e hLe;have hoe:ops[e]?=some ops[e]:=by simp [hes]
    refine ih e hei ops[e] hoe (hd e _ hLe hoe) j ?_
    have:(new.take i).getD e 0=(eU ops).getD e 0:=by
     unfold eU;rw [h1,List.getD_eq_getElem?_getD,List.getD_eq_getElem?_getD,List.getElem?_take,if_pos hei]
    rw [<- this];exact h
theorem dY {listed:Array Bool} {i:Nat}:i∈Region.ready .any ops listed ↔ i<ops.size/\listed.getD i true=false/\∃ o,ops[i]?=some o/\∀ e∈bq o,listed.getD e false=true:=by
 unfold Region.ready;simp only [Qp,RD,Px,PX];constructor
 ·rintro ⟨h1,h2,h3⟩;refine ⟨h1,h2,ops[i],by simp [h1],fun e he=>?_⟩;simp only [h1,Array.getElem?_eq_getElem,Qb,Rg] at h3;simp only [bq,Q2] at he;obtain ⟨x,hx,hx2⟩:=he;split at hx2 <;> simp only [Ps,reduceCtorEq] at hx2;rename_i hb;have:=Array.all_eq_true_iff_forall_mem.1 h3 x (by simpa using hx);simp only [hb,RA,Re] at this;rw [<- hx2];exact this
 ·rintro ⟨h1,h2,o,ho,h3⟩;refine ⟨h1,h2,?_⟩;rw [ho];simp only [Qb,Rg];refine Array.all_eq_true_iff_forall_mem.2 fun x hx=>?_
  cases hb:Region.binds .any x
  ·simp
  ·simp only [RA,Re];refine h3 x.on ?_;simp only [bq,Q2];exact ⟨x,by simpa using hx,by simp [hb]⟩
theorem mY:∀ (ds:List Nat),f9 ds=true->ds.Nodup
 | [],_=>Sh
 | d::ds,h=>by
  simp only [f9,Px] at h;refine Q9.2 ⟨fun hm=>?_,mY ds h.2⟩;have:=PA.1 h.1 d hm;simp at this
end
structure Walked0 (P:Program) (ss:Specs) (ops:Array Oper) (k:Nat) (S0:St) (rs:List (Nat×AV)):Prop where
 len:rs.length=k
 yields:∀ (i:Nat) o,i<k->ops[i]?=some o->∃ qs d r,rs[i]?=some (d,r)/\G9 P ss ops (gK S0 (rs.take i)) o=some (qs,d,r)/\d<S0.n/\∀ q∈qs,q
 once:Once rs
 gd0:∀ s,(S0.env s).noGd=true
 small:k<=ops.size
 okAt:∀ (i:Nat) o,i<k->ops[i]?=some o->M1 ops k i o=true
structure Walked (P:Program) (ss:Specs) (ops:Array Oper) (k:Nat) (S0:St) (rs:List (Nat×AV)):Prop extends Walked0 P ss ops k S0 rs where
 tail:∀ (i:Nat) o,k<=i->ops[i]?=some o->(∀ e∈bq o,e<i)/\∀ j,j<i->((eU ops).getD i 0).testBit j=true
section
variable {M:Nat->Prop} {p0:PH} {w0:World} {P:Program} {ss:Specs} {ops:Array Oper} {k:Nat} {S0:St} {rs:List (Nat×AV)}
theorem Once.mask {rs:List (Nat×AV)} (h:Once rs) (L:Nat->Bool):Once (mask L 0 rs):=by
 intro i j s a b h1 h2;rw [pE] at h1 h2;obtain ⟨x,hx,e1⟩:=Py.1 h1;obtain ⟨y,hy,e2⟩:=Py.1 h2;injection e1 with e1 _
 injection e2 with e2 _
 exact h i j s x.2 y.2 (by rw [hx,<- e1]) (by rw [hy,<- e2])
theorem Once.take {rs:List (Nat×AV)} (h:Once rs) (n:Nat):Once (rs.take n):=by
 intro i j s a b h1 h2;rw [List.getElem?_take] at h1 h2;split at h1
 ·split at h2
  ·exact h i j s a b h1 h2
  ·cases h2
 ·cases h1
theorem jX (h:Once rs) (L:Nat->Bool) {j t:Nat} {a:AV} (hj:rs[j]?=some (t,a)):(gK S0 (mask L 0 rs)).env t=bif L j then a else .any:=by
 have:lk (mask L 0 rs) t=some (bif L j then a else .any):=FH _ j t _ (h.mask L) (by rw [pE,hj]; simp);simp only [gK,this]
theorem vn (h:Once rs) {i j t:Nat} {a:AV} (hj:rs[j]?=some (t,a)) (hji:j<i):(gK S0 (rs.take i)).env t=a:=by
 have:lk (rs.take i) t=some a:=FH _ j t _ (h.take i) (by rw [List.getElem?_take,if_pos hji,hj]);simp only [gK,this]
theorem iL (L:Nat->Bool) {t:Nat} (hj:∀ (j:Nat) a,rs[j]?≠some (t,a)):(gK S0 (mask L 0 rs)).env t=S0.env t:=by
 have:lk (mask L 0 rs) t=none:=pG _ t (fun i a e=>by
  rw [pE] at e;obtain ⟨x,hx,e1⟩:=Py.1 e;injection e1 with e1 _
  exact hj i x.2 (by rw [hx,<- e1]))
 simp only [gK,this]
theorem wR {i t:Nat} (hj:∀ (j:Nat) a,rs[j]?≠some (t,a)):(gK S0 (rs.take i)).env t=S0.env t:=by
 have:lk (rs.take i) t=none:=pG _ t (fun n a e=>by
  rw [List.getElem?_take] at e;split at e
  ·exact hj n a e
  ·cases e)
 simp only [gK,this]
theorem Walked0.key (W:Walked0 P ss ops k S0 rs) {j t:Nat} {a:AV} (hj:rs[j]?=some (t,a)):j<k/\vr ops j=some t/\∃ o qs,ops[j]?=some o/\G9 P ss ops (gK S0 (rs.take j)) o=some (qs,t,a):=by
 have hk:j<k:=by
  rcases PU j k with h | h
  ·exact h
  ·rw [List.getElem?_eq_none (by rw [W.len]; exact h)] at hj; cases hj
 have hs:j<ops.size:=Qz hk W.small;have ho:ops[j]?=some ops[j]:=by simp [hs]
 obtain ⟨qs,d,r,h1,h2,_⟩:=W.yields j _ hk ho;rw [hj] at h1;injection h1 with h1
 injection h1 with h1 h1'
 subst h1; subst h1';exact ⟨hk,by simp [vr,ho,s7 h2],_,qs,ho,h2⟩
theorem gT {i:Nat} {o:Oper} (h:M1 ops k i o=true):(∀ e∈bq o,e<i)/\(∀ t,Operand.tmp t∈o.op.operands->∀ j,j<k->vr ops j=some t->j∈bq o)/\(∀ j b,o.guard=some (j,b)->j∈bq o):=by
 simp only [M1,Px] at h;obtain ⟨⟨h1,h2⟩,h3⟩:=h;refine ⟨fun e he=>by simpa using PA.1 h1 e he,fun t ht j hj hd=>?_,fun j b hg=>?_⟩
 ·have:=PA.1 h2 (.tmp t) (by simpa using ht);simp only at this;have:=PA.1 this j (by simpa using hj);simp only [hd,Qq,PX] at this;rcases this with h | h
  ·simp at h
  ·simpa using h
 ·rw [hg] at h3;simpa using h3
def Gl (ops:Array Oper) (L:Nat->Bool):Prop:=∀ (i:Nat) o,L i=true->ops[i]?=some o->∀ e∈bq o,L e=true
theorem Walked0.look (W:Walked0 P ss ops k S0 rs) {L:Nat->Bool} {i:Nat} {o:Oper} (hi:i<k) (ho:ops[i]?=some o) (he:∀ e∈bq o,L e=true) :
  ∀ x∈o.op.operands,(gK S0 (mask L 0 rs)).val x=(gK S0 (rs.take i)).val x:=by
 intro x hx;obtain ⟨h1,h2,_⟩:=gT (W.okAt i o hi ho);cases x with
 | tmp t =>
  simp only [St.val];by_cases hk:∃ (j:Nat) (a:AV),rs[j]?=some ((t:Nat),a)
  ·obtain ⟨j,a,hj⟩:=hk;obtain ⟨hjk,hd,_⟩:=W.key hj;have hje:=h2 t hx j hjk hd;rw [jX W.once L hj,vn W.once hj (h1 j hje),he j hje];rfl
  ·have hk':∀ (j:Nat) a,rs[j]?≠some (t,a):=fun j a e=>hk ⟨j,a,e⟩
   rw [iL L hk',wR hk']
 | const v=>rfl
 | func f=>rfl
 | global g=>rfl
theorem Walked0.gctx (W:Walked0 P ss ops k S0 rs) {L:Nat->Bool} (hD:Gl ops L) {i:Nat}:∀ (n j:Nat) (b:Bool) (t:Nat) (a:AV),rs[j]?=some (t,a)->L j=true->j<i ->
  dL (gK S0 (mask L 0 rs)) n t b=dL (gK S0 (rs.take i)) n t b/\∀ c∈dL (gK S0 (mask L 0 rs)) n t b,(gK S0 (mask L 0 rs)).env c.1=(gK S0 (rs.take i)).env c.1
 | 0,j,b,t,a,hj,hL,hji=>by
  refine ⟨rfl,fun c hc=>?_⟩;simp only [dL,PB] at hc;subst hc;simp only;rw [jX W.once L hj,vn W.once hj hji,hL];rfl
 | n+1,j,b,t,a,hj,hL,hji=>by
  have e1:(gK S0 (mask L 0 rs)).env t=a:=by rw [jX W.once L hj,hL]; rfl
  have e2:(gK S0 (rs.take i)).env t=a:=vn W.once hj hji;obtain ⟨hjk,hd,o,qs,ho,hev⟩:=W.key hj;simp only [dL,e1,e2];rcases yq hev with hn | ⟨j2,b2,g2,x,hg,hd2,rfl,hx⟩
  ·cases a <;> first
    | (cases hn; done)
    | (refine ⟨rfl,fun c hc=>?_⟩
       simp only [PB] at hc;subst hc;simp only;rw [e1,e2])
  ·have hok:=gT (W.okAt j o hjk ho);have hj2:=hok.2.2 j2 b2 hg;have hj2j:=hok.1 j2 hj2;have hL2:=hD j o hL ho j2 hj2;have hj2k:j2<k:=by omega
   have ho2:ops[j2]?=some (ops[j2]'(Qz hj2k W.small)):=by simp [Qz hj2k W.small]
   obtain ⟨_,d2,r2,hr2,hev2,_⟩:=W.yields j2 _ hj2k ho2
   have:d2=g2:=by
    have h1:=(W.key hr2).2.1;rw [hd2] at h1;injection h1 with h1
    exact h1.symm
   subst this;obtain ⟨k1,k2⟩:=W.gctx (i:=i) hD n j2 b2 d2 r2 hr2 hL2 (by omega);refine ⟨congrArg (List.cons _) k1,fun c hc=>?_⟩;rcases PD.1 hc with rfl | hc
   ·simp only;rw [e1,e2]
   ·exact k2 c hc
theorem lm {S S':St} {ctx:List (Nat×Bool)}:∀ (cs:List (Nat×Bool)),(∀ c∈cs,S.env c.1=S'.env c.1)->fb S ctx cs=fb S' ctx cs
 | [],_=>rfl
 | (g,b)::cs,h=>by
  have h1:=h (g,b) (by simp);simp only at h1;have ih:=lm (ctx:=ctx) cs (fun c hc=>h c (by simp [hc]));simp only [fb,h1,ih]
theorem Walked0.evD_eq (W:Walked0 P ss ops k S0 rs) {L:Nat->Bool} (hD:Gl ops L) {i:Nat} {o:Oper} (hi:i<k) (ho:ops[i]?=some o) (he:∀ e∈bq o,L e=true) :
  G9 P ss ops (gK S0 (mask L 0 rs)) o=G9 P ss ops (gK S0 (rs.take i)) o:=by
 have hl:=W.look hi ho he;have hlh:(gK S0 (mask L 0 rs)).lh=(gK S0 (rs.take i)).lh:=rfl;obtain ⟨q1,q2,q3⟩:=gT (W.okAt i o hi ho);unfold G9;split
 ·rfl
 ·split
  ·rw [rh hlh hl]
  ·rename_i d hd j b hg;split
   ·rename_i g hj;have hje:=q3 j b hg;have hjk:j<k:=by have:=q1 j hje; omega
    have hoj:ops[j]?=some (ops[j]'(Qz hjk W.small)):=by simp [Qz hjk W.small]
    obtain ⟨_,d2,r2,hr2,hev2,_⟩:=W.yields j _ hjk hoj
    have:d2=g:=by
     have h1:=(W.key hr2).2.1;have h2:vr ops j=some g:=hj;rw [h2] at h1;injection h1 with h1
     exact h1.symm
    subst this;obtain ⟨k1,k2⟩:=W.gctx hD 4 j b d2 r2 hr2 (he j hje) (q1 j hje);rw [lm _ k2,k1,rh hlh hl]
   ·rfl
end
section
variable {M:Nat->Prop} {p0:PH} {w0:World} {P:Program} {ss:Specs} {ops:Array Oper} {k:Nat} {S0:St} {rs:List (Nat×AV)}
theorem Js (hss:ss.okA P M w0) {S:St} {a:Act} {w:World} {o:Oper} {qs:List Prop} {d:Nat} {r:AV} {Q:Exit->Act->World->Prop} {K:Act->World->Prop} (hS:Sat M p0 w0 S a.tmps w) (h:G9 P ss ops S o=some (qs,d,r)) (hdn:d<S.n)
  (hgd:∀ j b g,o.guard=some (j,b)->vr ops j=some g->g≠d) (hq:∀ q∈qs,q) (hK:∀ a' w',Sat M p0 w0 (S.set d r) a'.tmps w'->a'.defers=a.defers->K a' w') :
  if Region.wanted o (yielded ops a.tmps) then o.wp P a w K Q else K (a.put o.dst undef) w:=by
 have hd:=s7 h;obtain ⟨p,β,hB⟩:=hS;unfold G9 at h;rw [hd] at h;simp only at h;split at h
 ·rename_i hg;split at h <;> simp only [Ps,Pv,reduceCtorEq] at h;rename_i ps r' hv;obtain ⟨rfl,_,rfl⟩:=h;have hw:Region.wanted o (yielded ops a.tmps)=true:=by simp [Region.wanted,hg]
  rw [if_pos hw];refine jE hB hss (aN _) hv hq K Q (fun v w' p' hS' hle hr=>?_);rw [hd];exact hK _ w' ⟨p',β,hS'.set hdn (fe (cm _ _) (cZ (aN _) _ _ hr))⟩ rfl
 ·rename_i j b hg;split at h <;> try cases h
  rename_i g hgj;split at h <;> simp only [Ps,Pv,reduceCtorEq] at h;rename_i ps r' hv;obtain ⟨rfl,_,rfl⟩:=h;have hne:g≠d:=hgd j b g hg hgj;split
  ·rename_i hw;have htm:=(j9 hg hgj a.tmps).1 hw;have hctx:=kP hB 4 g b htm;refine jE hB hss hctx hv (fun q hq'=>?_) K Q (fun v w' p' hS' hle hr=>?_)
   ·exact qQ _ q (hq _ (P3.2 ⟨q,hq',rfl⟩)) (je hB hctx _ hctx)
   ·rw [hd];refine hK _ w' ⟨p',β,hS'.set hdn (.inl ⟨?_,fe (cm _ _) (cZ (aN _) _ _ hr)⟩)⟩ rfl;rw [dO hne]; exact htm
  ·rename_i hw;have htm:a.tmps.getD g undef≠.bool b:=fun e=>hw ((j9 hg hgj a.tmps).2 e)
   rw [hd];exact hK _ w ⟨p,β,Sat.set_undef hB hdn hne htm⟩ rfl
theorem gV {x:AV} {d:Nat} (h:x.noGd=true):x.killG d=x:=by
 cases x <;> first | (cases h; done) | rfl
theorem Walked0.env_step (W:Walked0 P ss ops k S0 rs) {L:Nat->Bool} (hD:Gl ops L) {i:Nat} (hLi:L i=false) {d:Nat} {r:AV} (hi:rs[i]?=some (d,r)) :
  ((gK S0 (mask L 0 rs)).set d r).env=(gK S0 (mask (fun j=>L j||Nat.beq j i) 0 rs)).env:=by
 funext s;have hii:(L i||Nat.beq i i)=true:=by simp
 by_cases hs:s=d
 ·subst hs;rw [jX W.once _ hi,hii];simp [St.set]
 ·have hb:Nat.beq s d=false:=dW hs;simp only [St.set,hb,PF];by_cases hk:∃ (j:Nat) (a:AV),rs[j]?=some (s,a)
  ·obtain ⟨j,a,hj⟩:=hk
   have hji:j≠i:=by
    intro e;subst e;rw [hi] at hj;injection hj with hj
    injection hj with hj _
    exact hs hj.symm
   rw [jX W.once _ hj,jX W.once _ hj,dW hji,Q0];cases hL:L j
   ·rfl
   ·simp only [PZ];obtain ⟨hjk,hd,o,qs,ho,hev⟩:=W.key hj;rcases yq hev with hn | ⟨j2,b2,g2,x,hg,hd2,rfl,hx⟩
    ·exact gV hn
    ·have hok:=gT (W.okAt j o hjk ho);have hj2:=hok.2.2 j2 b2 hg;have hL2:=hD j o hL ho j2 hj2
     have hne:g2≠d:=by
      intro e;subst e;have hj2k:j2<k:=by have:=hok.1 j2 hj2; omega
      have ho2:ops[j2]?=some (ops[j2]'(Qz hj2k W.small)):=by simp [Qz hj2k W.small]
      obtain ⟨_,d2,r2,hr2,_⟩:=W.yields j2 _ hj2k ho2;have h1:=(W.key hr2).2.1;rw [hd2] at h1;injection h1 with h1
      subst h1;have:=W.once j2 i _ _ _ hr2 hi;subst this;rw [hLi] at hL2;cases hL2
     simp only [AV.killG,dW hne,PF,gV hx]
  ·have hk':∀ (j:Nat) a,rs[j]?≠some (s,a):=fun j a e=>hk ⟨j,a,e⟩
   rw [iL _ hk',iL _ hk'];exact gV (W.gd0 s)
def AX (listed:Array Bool):Nat->Nat
 | 0=>0
 | n+1=>AX listed n+(if listed.getD n true then 0 else 1)
theorem jT {listed:Array Bool} {i j:Nat}:(listed.setIfInBounds i true).getD j true=(listed.getD j true||Nat.beq j i):=by
 by_cases h:j=i
 ·subst h;by_cases hs:j<listed.size <;> simp [hs]
 ·rw [dW h,Q0];simp [Array.getElem?_setIfInBounds_ne (Ne.symm h)]
theorem AF {listed:Array Bool} {i:Nat} (hi:listed.getD i true=false):∀ n,AX (listed.setIfInBounds i true) n<=AX listed n/\(i<n->AX (listed.setIfInBounds i true) n<AX listed n)
 | 0=>⟨PP _,fun h=>by omega⟩
 | n+1=>by
  obtain ⟨h1,h2⟩:=AF hi n;simp only [AX,jT];by_cases hn:n=i
  ·subst hn;rw [hi];simp;omega
  ·rw [dW hn,Q0];refine ⟨by omega,fun h=>?_⟩;have:=h2 (by omega);omega
theorem vz {listed:Array Bool}:∀ n,AX listed n=0->∀ j,j<n->listed.getD j true=true
 | 0,_,j,hj=>by omega
 | n+1,h,j,hj=>by
  simp only [AX] at h;by_cases hn:j=n
  ·subst hn;cases hb:listed.getD j true
   ·rw [hb] at h; simp at h
   ·rfl
  ·exact vz n (by omega) j (by omega)
end
section
variable {M:Nat->Prop} {p0:PH} {w0:World} {P:Program} {ss:Specs} {ops:Array Oper} {k:Nat} {S0:St} {rs:List (Nat×AV)} {Q:Exit->Act->World->Prop}
theorem Sat.congrE {S T:St} {tm:Array Value} {w:World} (h:Sat M p0 w0 S tm w) (he:T.env=S.env) (hl:T.lh=S.lh) (hn:T.n=S.n):Sat M p0 w0 T tm w:=by
 obtain ⟨p,β,h⟩:=h;refine ⟨p,β,h.keep,h.agr,h.old,by rw [hn]; exact h.size,?_,?_,?_,?_⟩
 ·rw [hl]; exact h.lhs
 ·rw [hl]; exact h.owns
 ·rw [hl]; exact h.inj
 ·rw [he]; exact h.env
theorem ju {listed:Array Bool} {j:Nat} (h:j<listed.size):listed.getD j false=listed.getD j true:=by simp [h]
theorem Bo (W:Walked P ss ops k S0 rs):∀ (fuel m:Nat) (listed:Array Bool) (a:Act) (w:World),ops.size - m<=fuel->k<=m->listed.size=ops.size->(∀ j,j<ops.size->listed.getD j true=decide (j<m)) ->
  wpList P ops Q (ops.toList.drop m) a w->wpAny P .any ops Q fuel listed a w:=by
 have only:∀ (m:Nat) (listed:Array Bool),k<=m->listed.size=ops.size->(∀ j,j<ops.size->listed.getD j true=decide (j<m))->∀ i∈Region.ready .any ops listed,i=m:=by
  intro m listed hkm hsz hL i hi;obtain ⟨h1,h2,o,ho,h3⟩:=dY.1 hi
  have hmi:m<=i:=by
   rw [hL i h1] at h2;simpa using h2
  rcases PU m i with hlt | hge
  ·exfalso;have:=(W.tail i o (by omega) ho).2 m hlt
   have hin:=kV (ops:=ops) (L:=fun j=>j<ops.size/\listed.getD j true=true) (fun j oj hj hoj e he=>by
    obtain ⟨hjs,hjl⟩:=hj;rw [hL j hjs] at hjl;have hjm:j<m:=by simpa using hjl
    have hej:e<j:=by
     rcases PU j k with hjk | hjk
     ·exact (gT (W.okAt j oj hjk hoj)).1 e he
     ·exact (W.tail j oj hjk hoj).1 e he
    refine ⟨by omega,?_⟩;rw [hL e (by omega)];simpa using (show e<m by omega)) (fun j hj=>hj.1) i o ho (fun e he=>by
    have he':=h3 e he
    have hes:e<listed.size:=by
     rcases PU e listed.size with h | h
     ·exact h
     ·simp [h] at he'
    exact ⟨by omega,by rw [<- ju hes]; exact he'⟩) m this
   have hh:=hin.2;rw [hL m (by omega)] at hh;simp at hh
  ·omega
 have mready:∀ (m:Nat) (listed:Array Bool),k<=m->listed.size=ops.size->(∀ j,j<ops.size->listed.getD j true=decide (j<m))->m<ops.size->m∈Region.ready .any ops listed:=by
  intro m listed hkm hsz hL hm;have ho:ops[m]?=some ops[m]:=by simp [hm]
  refine dY.2 ⟨hm,by rw [hL m hm]; simp,_,ho,fun e he=>?_⟩;have hem:=(W.tail m _ hkm ho).1 e he;rw [ju (by omega),hL e (by omega)];simpa using hem
 intro fuel
 induction fuel with
 | zero =>
  intro m listed a w hf hkm hsz hL h;have hd:ops.toList.drop m=[]:=Rc (by simp; omega);rw [hd] at h;refine ⟨?_,h⟩;refine List.eq_nil_iff_forall_not_mem.2 fun i hi=>?_
  have:=only m listed hkm hsz hL i hi;have:=(dY.1 hi).1;omega
 | succ fuel ih =>
  intro m listed a w hf hkm hsz hL h;refine ⟨fun h0=>?_,fun i hi=>?_⟩
  ·rcases PU m ops.size with hm | hm
   ·have:=mready m listed hkm hsz hL hm;rw [h0] at this;cases this
   ·have hd:ops.toList.drop m=[]:=Rc (by simpa using hm);rw [hd] at h;exact h
  ·have him:=only m listed hkm hsz hL i hi;subst him;have hm:=(dY.1 hi).1
   have hd:ops.toList.drop i=ops[i]::ops.toList.drop (i+1):=by
    rw [QN (by simpa using hm)];simp
   rw [hd] at h
   have h':wpOp P ops Q i (wpList P ops Q (ops.toList.drop (i+1))) a w:=by
    unfold wpOp;have ho:ops[i]?=some ops[i]:=by simp [hm]
    rw [ho];exact h
   refine wpOp_mono (fun a' w' hw=>ih (i+1) _ a' w' (by omega) (by omega) (by simpa using hsz) (fun j hj=>?_) hw) h';rw [jT,hL j hj];by_cases hji:j=i
   ·subst hji; simp
   ·rw [dW hji,Q0];apply RZ.2;omega
theorem F6 {listed:Array Bool} {k:Nat}:∀ n,(∀ j,k<=j->j<n->listed.getD j true=false)->n - k<=AX listed n
 | 0,_=>by omega
 | n+1,h=>by
  have ih:=F6 n (fun j h1 h2=>h j h1 (by omega));simp only [AX];rcases PU n k with hk | hk
  ·omega
  ·rw [h n hk (by omega)];simp;omega
theorem oA {listed:Array Bool}:∀ n,(∃ j,j<n/\listed.getD j true=false)->∃ i,i<n/\listed.getD i true=false/\∀ j,j<i->listed.getD j true=true
 | 0,⟨j,hj,_⟩=>by omega
 | n+1,⟨j,hj,hjl⟩=>by
  by_cases h:∃ j,j<n/\listed.getD j true=false
  ·obtain ⟨i,h1,h2,h3⟩:=oA n h;exact ⟨i,by omega,h2,h3⟩
  ·have all:∀ j,j<n->listed.getD j true=true:=fun j hj=>by
    cases hb:listed.getD j true
    ·exact absurd ⟨j,hj,hb⟩ h
    ·rfl
   have:j=n:=by
    rcases PU j n with h' | h'
    ·rw [all j h'] at hjl; cases hjl
    ·omega
   subst this;exact ⟨j,by omega,hjl,all⟩
theorem uB {L:Nat->Bool}:∀ (n:Nat) (rs:List (Nat×AV)),(∀ j,j<rs.length->L (n+j)=true)->mask L n rs=rs
 | _,[],_=>rfl
 | n,(d,a)::rs,h=>by
  have h0:=h 0 (by simp);simp only [QU] at h0;simp only [mask,h0,PZ];rw [uB (n+1) rs (fun j hj=>by have:=h (j+1) (by simp; omega); rwa [show n+(j+1)=n+1+j by omega] at this)]
theorem LU (hss:ss.okA P M w0) (W:Walked P ss ops k S0 rs) {ds:List Deferred} (hrest:∀ a w,Sat M p0 w0 (gK S0 rs) a.tmps w->a.defers=ds->wpList P ops Q (ops.toList.drop k) a w) :
  ∀ (fuel:Nat) (listed:Array Bool) (a:Act) (w:World),listed.size=ops.size->AX listed ops.size<=fuel->Gl ops (fun j=>listed.getD j true)->(∀ j,k<=j->j<ops.size->listed.getD j true=false) ->
   Sat M p0 w0 (gK S0 (mask (fun j=>listed.getD j true) 0 rs)) a.tmps w->a.defers=ds->wpAny P .any ops Q fuel listed a w:=by
 intro fuel
 induction fuel with
 | zero =>
  intro listed a w hsz hc hD ht hS hds;have hall:=vz (listed:=listed) ops.size (by omega)
  have hk:ops.size<=k:=by
   rcases PU k ops.size with h | h
   ·have h1:=ht k (PP _) h;rw [hall k h] at h1;cases h1
   ·exact h
  have hm:mask (fun j=>listed.getD j true) 0 rs=rs:=uB 0 rs (fun j hj=>by
   simp only [Qg];exact hall j (by rw [W.len] at hj; have:=W.small; omega))
  rw [hm] at hS;exact Bo W 0 k listed a w (by omega) (PP _) hsz (fun j hj=>by rw [hall j hj]; simp; omega) (hrest a w hS hds)
 | succ fuel ih =>
  intro listed a w hsz hc hD ht hS hds;by_cases hp:∃ j,j<k/\listed.getD j true=false
  ·obtain ⟨i0,hi0,hi0l,hi0a⟩:=oA k hp;refine ⟨fun h0=>?_,fun i hi=>?_⟩
   ·exfalso;have hs0:i0<ops.size:=Qz hi0 W.small;have ho:ops[i0]?=some ops[i0]:=by simp [hs0]
    have:i0∈Region.ready .any ops listed:=dY.2 ⟨hs0,hi0l,_,ho,fun e he=>by
     have:=(gT (W.okAt i0 _ hi0 ho)).1 e he;rw [ju (by omega)];exact hi0a e this⟩
    rw [h0] at this;cases this
   ·obtain ⟨h1,h2,o,ho,h3⟩:=dY.1 hi
    have h3':∀ e∈bq o,listed.getD e true=true:=fun e he=>by
     have he':=h3 e he
     have hes:e<listed.size:=by
      rcases PU e listed.size with h | h
      ·exact h
      ·simp [h] at he'
     rw [<- ju hes];exact he'
    have hik:i<k:=by
     rcases PU i k with h | h
     ·exact h
     ·exfalso;have:=(W.tail i o h ho).2 i0 (by omega)
      have hin:=kV (ops:=ops) (L:=fun j=>j<ops.size/\listed.getD j true=true) (fun j oj hj hoj e he=>by
       have hej:e<j:=by
        rcases PU j k with hjk | hjk
        ·exact (gT (W.okAt j oj hjk hoj)).1 e he
        ·exact (W.tail j oj hjk hoj).1 e he
       exact ⟨by omega,hD j oj hj.2 hoj e he⟩) (fun j hj=>hj.1) i o ho (fun e he=>⟨by have:=(W.tail i o h ho).1 e he; omega,h3' e he⟩) i0 this
      rw [hi0l] at hin;exact absurd hin.2 (by simp)
    obtain ⟨qs,d,r,hr,hev,hdn,hq⟩:=W.yields i o hik ho;rw [<- W.evD_eq hD hik ho h3'] at hev
    have step:=Js (M:=M) (p0:=p0) (w0:=w0) (Q:=Q) (K:=wpAny P .any ops Q fuel (listed.setIfInBounds i true)) hss hS hev hdn (fun j b g hg hj e=>by
     subst e;have hok:=gT (W.okAt i o hik ho);have hje:=hok.2.2 j b hg;have hji:=hok.1 j hje;have hjk:j<k:=by omega
     have hoj:ops[j]?=some (ops[j]'(Qz hjk W.small)):=by simp [Qz hjk W.small]
     obtain ⟨_,d2,r2,hr2,_⟩:=W.yields j _ hjk hoj;have h5:=(W.key hr2).2.1;rw [hj] at h5;injection h5 with h5
     subst h5;have:=W.once j i _ _ _ hr2 hr;omega) hq (fun a' w' hS' hd'=>by
     have hL':(fun j=>(listed.setIfInBounds i true).getD j true)=(fun j=>listed.getD j true||Nat.beq j i):=by funext j; exact jT
     refine ih _ a' w' (by simpa using hsz) ?_ ?_ ?_ ?_ (hd'.trans hds)
     ·have:=(AF h2 ops.size).2 h1;omega
     ·rw [hL'];intro j oj hj hoj e he;simp only [Qq] at hj |-;rcases hj with hj | hj
      ·exact .inl (hD j oj hj hoj e he)
      ·have:=Pw hj;subst this;rw [ho] at hoj;injection hoj with hoj
       subst hoj;exact .inl (h3' e he)
     ·intro j hj hjs;rw [jT,ht j hj hjs,dW (by omega)];rfl
     ·rw [hL'];exact hS'.congrE (W.env_step hD h2 hr).symm rfl rfl)
    unfold wpOp;rw [ho];simp only;split
    ·rename_i hw;rw [if_pos hw] at step;exact .inl step
    ·rename_i hw;rw [if_neg hw] at step;exact step
  ·have hall:∀ j,j<k->listed.getD j true=true:=fun j hj=>by
    cases hb:listed.getD j true
    ·exact absurd ⟨j,hj,hb⟩ hp
    ·rfl
   have hm:mask (fun j=>listed.getD j true) 0 rs=rs:=uB 0 rs (fun j hj=>by
    simp only [Qg];exact hall j (by rw [W.len] at hj; exact hj))
   rw [hm] at hS;have hge:=F6 (k:=k) ops.size (fun j h1 h2=>ht j h1 h2);refine Bo W (fuel+1) k listed a w (by omega) (PP _) hsz (fun j hj=>?_) (hrest a w hS hds);rcases PU j k with h | h
   ·rw [hall j h]; simp [h]
   ·rw [ht j h hj]; simp; omega
end
def rv (P:Program) (ss:Specs) (ops:Array Oper) (S:St):List Oper->List (Nat×AV)->List Prop×List (Nat×AV)
 | [],rs=>([],rs)
 | o::os,rs=>match G9 P ss ops (gK S rs) o with
  | some (ps,d,r)=>if Nat.blt d S.n then (match rv P ss ops S os (rs++[(d,r)]) with
    | (qs,rs')=>(ps++qs,rs')) else ([],rs)
  | none=>([],rs)
def Gr (ops:Array Oper) (S:St) (t:Nat):List Nat :=
 match ops.toList.find? (fun o'=>match o'.dst with | some d=>Nat.beq d t | none=>false) with
 | some o'=>match o'.op with
  | .move y=>(S.look [] y).owns
  | .load _ y=>match S.look [] y with
   | .loc d 0=>match S.lh d with
    | some (.cells c)=>c.owns
    | _=>[]
   | _=>[]
  | _=>[]
 | none=>(S.look [] (.tmp t)).owns
def eC (ss:Specs) (ops:Array Oper) (S:St):List Nat :=
 ops.toList.flatMap fun o=>match o.op with
  | .buildSlice _ _ parts=>parts.toList.flatMap fun x=>match x.2 with
   | .tmp t=>Gr ops S t
   | _=>[]
  | .call { callee:=.value (.func f),args,.. }=>match ss f with
   | some s=>if s.al then args.toList.flatMap (fun x=>match x with
    | .tmp t=>Gr ops S t
    | _=>[]) else []
   | none=>[]
  | _=>[]
def tO (P:Program) (ss:Specs) (ops:Array Oper) (S:St):Option (List Prop×St) :=
 match rv P ss ops S ops.toList [] with
 | (ps,rs)=>if P.follows .mixedOrders&&LV ops rs.length then
   (match run P ss ops (ops.toList.drop rs.length) (gK S rs) with
    | some (qs,S')=>some (ps++qs,S')
    | none=>none)
  else none
def oZ (P:Program) (ss:Specs) (ops:Array Oper) (S:St):Option (List Prop×St):=tO P ss ops (S.freeze (eC ss ops S))
section
variable {M:Nat->Prop} {p0:PH} {w0:World} {P:Program} {ss:Specs} {ops:Array Oper} {S:St}
theorem oa:∀ (os:List Oper) (rs0:List (Nat×AV)),∃ n,(rv P ss ops S os rs0).2.length=rs0.length+n/\n<=os.length/\zB P ss ops S (os.take n) rs0=some (rv P ss ops S os rs0)
 | [],rs0=>⟨0,by simp [rv],by simp,by simp [rv,zB]⟩
 | o::os,rs0=>by
  unfold rv;split
  ·rename_i ps d r he;split
   ·rename_i hd;obtain ⟨n,h1,h2,h3⟩:=oa os (rs0++[(d,r)]);refine ⟨n+1,?_,by simp; omega,?_⟩
    ·simp only [PC,Pz,P4] at h1;show (rv P ss ops S os (rs0++[(d,r)])).2.length=_;omega
    ·simp only [QV,zB,he,hd,if_true,h3]
   ·exact ⟨0,by simp,by simp,by simp [zB]⟩
  ·exact ⟨0,by simp,by simp,by simp [zB]⟩
theorem wG {rs:List (Nat×AV)}:∀ (os:List Oper) (_:rs.length=os.length) (_:∀ (i:Nat) o,os[i]?=some o->∃ a,rs[i]?=some (a,(rs[i]?.map (·.2)).getD .any)/\o.dst=some a),os.filterMap (·.dst)=rs.map (·.1):=by
 induction rs with
 | nil=>intro os h _; simp at h; simp [PO h.symm]
 | cons x rs ih =>
  intro os h hat
  match os,h with
  | o::os,h =>
   obtain ⟨a,h1,h2⟩:=hat 0 o rfl;simp only [List.getElem?_cons_zero,Ps] at h1;have hx:x.1=a:=by rw [h1]
   simp only [R7,h2,Qf,hx]
   rw [ih os (by simpa using h) (fun i o' ho=>by
    obtain ⟨a',k1,k2⟩:=hat (i+1) o' (by simpa using ho);exact ⟨a',by simpa using k1,k2⟩)]
theorem wt:∀ {rs:List (Nat×AV)},(rs.map (·.1)).Nodup->Once rs
 | rs,h=>by
  intro i j s a b h1 h2;have e1:(rs.map (·.1))[i]?=some s:=by simp [h1]
  have e2:(rs.map (·.1))[j]?=some s:=by simp [h2]
  have hi:i<(rs.map (·.1)).length:=by
   rcases PU i (rs.map (·.1)).length with h | h
   ·exact h
   ·rw [List.getElem?_eq_none h] at e1; cases e1
  exact (List.getElem?_inj hi h).1 (e1.trans e2.symm)
theorem Ae (ds:List Nat) (S:St):(S.clean).freeze ds=(S.clean.freeze ds).clean:=by
 have h:=cN ds S.clean;unfold St.clean at *;simp only at h;generalize ({ env:=fun s=>(S.env s).opn [],lh:=S.lh,n:=S.n,lock:=S.lock }:St).freeze ds=T at *;obtain ⟨e,l,n,k⟩:=T;simp only at h;obtain ⟨h1,_,_⟩:=h;subst h1;simp only [St.mk.injEq,RB];funext s;have:=cm [] (S.env s);cases hx:(S.env s).opn [] <;> rw [hx] at this <;> first | rfl | cases this
theorem Cf (hss:ss.okA P M w0) {id:Nat} {S':St} {ps:List Prop} {a:Act} {w:World} {Q:Exit->Act->World->Prop} (hr:oZ P ss ops S.clean=some (ps,S')) (hps:∀ q∈ps,q) (hS:Sat M p0 w0 S.clean a.tmps w)
  (hQ:∀ a' w',Sat M p0 w0 S' a'.tmps w'->a'.defers=a.defers->Q .normal a' w'):(Code.region id ops true).wp P Q a w:=by
 unfold oZ at hr;obtain ⟨pF,βF,hSF⟩:=hS;obtain ⟨p1F,_,hS1F⟩:=bX (eC ss ops S.clean) S.clean pF hSF;have hS:Sat M p0 w0 (S.clean.freeze (eC ss ops S.clean)) a.tmps w:=⟨p1F,βF,hS1F⟩;rw [Ae] at hr hS;clear hS1F hSF;generalize S.clean.freeze (eC ss ops S.clean)=S at *;unfold tO at hr;split at hr;rename_i ps1 rs hm;split at hr <;> try cases hr
 rename_i hck;simp only [Px] at hck;split at hr <;> simp only [Ps,Pv,reduceCtorEq] at hr;obtain ⟨rfl,rfl⟩:=hr;rename_i qs S' hrun;obtain ⟨n,h1,h2,h3⟩:=oa (P:=P) (ss:=ss) (ops:=ops) (S:=S.clean) ops.toList [];rw [hm] at h1 h3;simp only [P4,Qg] at h1;obtain ⟨rs1,e1,hl,hat⟩:=qF _ _ _ _ h3;simp only [P0] at e1 hat;subst e1;have hn:rs.length=n:=h1;have hok:=hck.2;simp only [LV,Px] at hok;obtain ⟨⟨k1,k2⟩,k3⟩:=hok;have k1:=PN k1
 have hget:∀ (i:Nat) o,i<rs.length->ops[i]?=some o->(ops.toList.take n)[i]?=some o:=by
  intro i o hi ho;rw [List.getElem?_take,if_pos (by omega)];simpa using ho
 have hnd:(rs.map (·.1)).Nodup:=by
  have:=mY _ k3
  rw [hn,wG (rs:=rs) (ops.toList.take n) hl.symm.symm (fun i o ho=>by
   obtain ⟨qs',d,r,g1,g2,_⟩:=hat i o ho;exact ⟨d,by simp [g1],s7 g2⟩)] at this
  exact this
 have W:Walked P ss ops rs.length S.clean rs:=by
  refine ⟨⟨rfl,fun i o hi ho=>?_,wt hnd,fun s=>cm _ _,k1,fun i o hi ho=>?_⟩,fun i o hi ho=>?_⟩
  ·obtain ⟨qs',d,r,g1,g2,g3,g4⟩:=hat i o (hget i o hi ho);exact ⟨qs',d,r,g1,g2,g3,fun q hq=>hps q (PE _ (g4 q hq))⟩
  ·have:=PA.1 k2 i (by
    have:i<ops.size:=by omega
    simpa using this)
   simp only [ho] at this;rw [if_pos (by simpa using hi)] at this;exact this
  ·have his:i<ops.size:=by
    rcases PU i ops.size with h | h
    ·exact h
    ·rw [Array.getElem?_eq_none h] at ho; cases ho
   have:=PA.1 k2 i (by simpa using his);simp only [ho] at this;rw [if_neg (by simp; omega)] at this;simp only [Px] at this;exact ⟨fun e he=>by simpa using PA.1 this.1 e he,fun j hj=>PA.1 this.2 j (by simpa using hj)⟩
 have hS2:Sat M p0 w0 S.clean a.tmps { w with drawn:=w.drawn+1 }:=by
  obtain ⟨p,β,h⟩:=hS;exact ⟨p,β,⟨h.keep.os,h.keep.tape,h.keep.output,h.keep.size,h.keep.block⟩,h.agr,h.old,h.size,h.lhs,h.owns,h.inj,h.env⟩
 refine wp_region_any hck.1 ?_
 refine LU hss W (ds:=a.defers) (fun a' w' hS' hd'=>k9 hss _ _ S' qs a' w' hrun (fun q hq=>hps q (PK _ hq)) hS' (fun a'' w'' h5 h6=>hQ a'' w'' h5 (h6.trans hd')))
  ops.size _ a _ (by simp) ?_ ?_ ?_ ?_ rfl
 ·have:∀ n,AX (Array.replicate ops.size false) n<=n:=by
   intro n
   induction n with
   | zero=>exact PP _
   | succ n ih=>simp only [AX]; split <;> omega
  exact this _
 ·intro i o hi ho
  have his:i<ops.size:=by
   rcases PU i ops.size with h | h
   ·exact h
   ·rw [Array.getElem?_eq_none h] at ho; cases ho
  simp [his] at hi
 ·intro j _ hj;simp [hj]
 ·obtain ⟨p,β,h⟩:=hS2;refine ⟨p,β,h.keep,h.agr,h.old,h.size,h.lhs,h.owns,h.inj,fun s=>?_⟩;by_cases hk:∃ (j:Nat) (a:AV),rs[j]?=some (s,a)
  ·obtain ⟨j,b,hj⟩:=hk;have hjs:j<ops.size:=Qz (W.key hj).1 k1;rw [jX W.once _ hj];have:(Array.replicate ops.size false).getD j true=false:=by simp [hjs]
   rw [this];trivial
  ·have hk':∀ (j:Nat) a,rs[j]?≠some (s,a):=fun j a e=>hk ⟨j,a,e⟩
   rw [iL _ hk'];exact h.env s
end
section
variable {M:Nat->Prop} {p0:PH} {w0:World} {P:Program} {ss:Specs} {ops:Array Oper} {k:Nat} {S0:St} {rs:List (Nat×AV)} {Q:Exit->Act->World->Prop}
theorem Sat.weak {S T:St} {tm:Array Value} {w:World} (h:Sat M p0 w0 S tm w) (he:∀ s,T.env s=S.env s\/T.env s=.any) (hl:T.lh=S.lh) (hn:T.n=S.n):Sat M p0 w0 T tm w:=by
 obtain ⟨p,β,h⟩:=h;refine ⟨p,β,h.keep,h.agr,h.old,by rw [hn]; exact h.size,?_,?_,?_,fun s=>?_⟩
 ·rw [hl]; exact h.lhs
 ·rw [hl]; exact h.owns
 ·rw [hl]; exact h.inj
 ·rcases he s with e | e
  ·rw [e]; exact h.env s
  ·rw [e]; trivial
end
section
variable {M:Nat->Prop} {p0:PH} {w0:World} {P:Program} {ss:Specs} {ops:Array Oper} {k:Nat} {S0:St} {rs:List (Nat×AV)} {Q:Exit->Act->World->Prop}
theorem HV {k1:Nat} (hedge:∀ (i:Nat) o,ops[i]?=some o->∀ e∈bq o,e<i) (htail:∀ (i:Nat) o,k1<=i->ops[i]?=some o->∀ j,j<i->((eU ops).getD i 0).testBit j=true) :
  ∀ (fuel m:Nat) (listed:Array Bool) (a:Act) (w:World),ops.size - m<=fuel->k1<=m->listed.size=ops.size->(∀ j,j<ops.size->listed.getD j true=decide (j<m)) ->
  wpList P ops Q (ops.toList.drop m) a w->wpAny P .any ops Q fuel listed a w:=by
 have only:∀ (m:Nat) (listed:Array Bool),k1<=m->listed.size=ops.size->(∀ j,j<ops.size->listed.getD j true=decide (j<m))->∀ i∈Region.ready .any ops listed,i=m:=by
  intro m listed hkm hsz hL i hi;obtain ⟨h1,h2,o,ho,h3⟩:=dY.1 hi
  have hmi:m<=i:=by
   rw [hL i h1] at h2;simpa using h2
  rcases PU m i with hlt | hge
  ·exfalso;have:=htail i o (by omega) ho m hlt
   have hin:=kV (ops:=ops) (L:=fun j=>j<ops.size/\listed.getD j true=true) (fun j oj hj hoj e he=>by
    obtain ⟨hjs,hjl⟩:=hj;rw [hL j hjs] at hjl;have hjm:j<m:=by simpa using hjl
    have hej:e<j:=hedge j oj hoj e he;refine ⟨by omega,?_⟩;rw [hL e (by omega)];simpa using (show e<m by omega)) (fun j hj=>hj.1) i o ho (fun e he=>by
    have he':=h3 e he
    have hes:e<listed.size:=by
     rcases PU e listed.size with h | h
     ·exact h
     ·simp [h] at he'
    exact ⟨by omega,by rw [<- ju hes]; exact he'⟩) m this
   have hh:=hin.2;rw [hL m (by omega)] at hh;simp at hh
  ·omega
 have mready:∀ (m:Nat) (listed:Array Bool),k1<=m->listed.size=ops.size->(∀ j,j<ops.size->listed.getD j true=decide (j<m))->m<ops.size->m∈Region.ready .any ops listed:=by
  intro m listed hkm hsz hL hm;have ho:ops[m]?=some ops[m]:=by simp [hm]
  refine dY.2 ⟨hm,by rw [hL m hm]; simp,_,ho,fun e he=>?_⟩;have hem:=hedge m _ ho e he;rw [ju (by omega),hL e (by omega)];simpa using hem
 intro fuel
 induction fuel with
 | zero =>
  intro m listed a w hf hkm hsz hL h;have hd:ops.toList.drop m=[]:=Rc (by simp; omega);rw [hd] at h;refine ⟨?_,h⟩;refine List.eq_nil_iff_forall_not_mem.2 fun i hi=>?_
  have:=only m listed hkm hsz hL i hi;have:=(dY.1 hi).1;omega
 | succ fuel ih =>
  intro m listed a w hf hkm hsz hL h;refine ⟨fun h0=>?_,fun i hi=>?_⟩
  ·rcases PU m ops.size with hm | hm
   ·have:=mready m listed hkm hsz hL hm;rw [h0] at this;cases this
   ·have hd:ops.toList.drop m=[]:=Rc (by simpa using hm);rw [hd] at h;exact h
  ·have him:=only m listed hkm hsz hL i hi;subst him;have hm:=(dY.1 hi).1
   have hd:ops.toList.drop i=ops[i]::ops.toList.drop (i+1):=by
    rw [QN (by simpa using hm)];simp
   rw [hd] at h
   have h':wpOp P ops Q i (wpList P ops Q (ops.toList.drop (i+1))) a w:=by
    unfold wpOp;have ho:ops[i]?=some ops[i]:=by simp [hm]
    rw [ho];exact h
   refine wpOp_mono (fun a' w' hw=>ih (i+1) _ a' w' (by omega) (by omega) (by simpa using hsz) (fun j hj=>?_) hw) h';rw [jT,hL j hj];by_cases hji:j=i
   ·subst hji; simp
   ·rw [dW hji,Q0];apply RZ.2;omega
theorem DE:∀ (l:List Oper),f9 (l.filterMap (·.dst))=true->∀ (i j:Nat) (oi oj:Oper) (d:Nat),l[i]?=some oi->l[j]?=some oj->oi.dst=some d->oj.dst=some d->i=j
 | [],_,_,_,_,_,_,h,_,_,_=>by simp at h
 | o::l,h,i,j,oi,oj,d,hi,hj,hdi,hdj=>by
  have hrest:f9 (l.filterMap (·.dst))=true:=by
   cases ho:o.dst with
   | none=>simpa [R7,ho] using h
   | some e =>
    rw [R7,ho] at h;simp only [f9,Px] at h;exact h.2
  have hno:∀ (q:Nat) (oq:Oper),o.dst=some d->l[q]?=some oq->oq.dst=some d->False:=by
   intro q oq ho hq hdq;rw [R7,ho] at h;simp only [f9,Px] at h;have:=PA.1 h.1 d (Q2.2 ⟨oq,QM hq,hdq⟩);simp at this
  cases i with
  | zero =>
   cases j with
   | zero=>rfl
   | succ j =>
    simp only [List.getElem?_cons_zero,Ps,List.getElem?_cons_succ] at hi hj;subst hi;exact (hno j oj hdi hj hdj).elim
  | succ i =>
   cases j with
   | zero =>
    simp only [List.getElem?_cons_zero,Ps,List.getElem?_cons_succ] at hi hj;subst hj;exact (hno i oi hdj hi hdi).elim
   | succ j =>
    simp only [List.getElem?_cons_succ] at hi hj;rw [DE l hrest i j oi oj d hi hj hdi hdj]
end
end Go.Proofs.YtmfileeamnfpaaaGreatDoor
