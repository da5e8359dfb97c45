
import Derived.Test.YtmfileeamnfpaaaGreatDoorEG2
import Derived.Maps.AppendAt
import Derived.Laws.BytesArg
import Derived.Laws.IdiomCopy
import Derived.Laws.CopyRow
import Derived.Lib.AppendZerosOnto
namespace Go.Proofs.YtmfileeamnfpaaaGreatDoor
open Go
def AV.owns:AV->List Nat
 | .own d=>[d]
 | .mp d=>[d]
 | .pair a b=>a.owns++b.owns
 | _=>[]
def St.freeze1 (S:St) (d:Nat):St :=
 match S.lh d with
 | some (.row _ T xs)=>if S.lock d then S else S.entry d (.froz T xs)
 | some (.mapp k V m)=>if S.lock d then S else S.entry d (.frozm k V m)
 | _=>S
def St.freeze (S:St) (ds:List Nat):St:=ds.foldl St.freeze1 S
section
variable {M:Nat->Prop} {p0:PH} {w0:World} {S:St} {tm:Array Value} {w:World} {p:PH} {β:Nat->Value} {P:Program}
theorem p9 (hS:SatB M p0 w0 S tm w p β) {d:Nat} {e:TypeId} {T:Ty} {xs:List T.den} (hd:S.lh d=some (.row e T xs)) :
  (xs=[]/\β d=.slice none 0 0)\/∃ (g cap:Nat) (cur:Array Value) (l:List Value),β d=.slice (some ⟨g,0,none⟩) xs.length cap/\w.heap[g]?=some (.cells cur e (0,0))/\xs.length<=cap/\aN (T.holds p) xs l /\
   (∀ (j:Nat) (u:Value),l[j]?=some u->cur[j]?=some u)/\xs.length * T.bytes<=aK:=by
 obtain ⟨l,h1,h2,h3⟩:=hS.lhs d _ hd;rcases h1.2 with ⟨e0,h0⟩ | ⟨g,cap,cur,e1,_,e2,e3,_,e4,e5⟩
 ·exact .inl ⟨QF h0,e0⟩
 ·refine .inr ⟨g,cap,cur,l,e1,e2,e3,h2,fun j u hu=>?_,h3⟩;rw [<- e5,List.getElem?_take] at hu;split at hu
  ·simpa using hu
  ·cases hu
theorem SatB.frozeMap (hS:SatB M p0 w0 S tm w p β) {d:Nat} {k:IntKind} {V:Ty} {m:List (Int×V.den)} (hd:S.lh d=some (.mapp k V m)) :
  ∃ p' g es clock,PH.le p p'/\β d=.map (some g)/\w.heap[g]?=some (.map es clock)/\jL es clock/\p' g=some (.map es clock)/\cz k (fun x v=>fC V (V.holds p' x) v) m es.toList/\SatB M p0 w0 (S.entry d (.frozm k V m)) tm w p' β:=by
 obtain ⟨g,es,clock,hb,hg,hst,hm⟩:=hS.lhs d _ hd;have hpg:p g=none:=(hS.owns d _ g hd rfl (by rw [hb]; rfl)).2
 have hle:PH.le p (fun b=>if b=g then some (.map es clock) else p b):=fun b cs h=>by
  by_cases e:b=g
  ·subst e; rw [hpg] at h; cases h
  ·simpa [e] using h
 have hS1:SatB M p0 w0 (S.entry d .dead) tm w p β:=hS.entry trivial (fun b h=>by cases h) (fun d' e' b _ h=>by cases h)
 have hS2:=hS1.more hle (fun b cs h=>by
  by_cases e:b=g
  ·subst e;simp only [if_true,pS] at h;subst h;exact hg
  ·simp only [e,QW] at h;exact hS.agr b cs h) (fun b cs h=>by
  by_cases e:b=g
  ·subst e;exact .inr ((hS.owns d _ b hd rfl (by rw [hb]; rfl)).1.symm)
  ·simp only [e,QW] at h;exact .inl h) (fun d' e' b hd' hl' hb'=>by
  have hne:d'≠d:=by
   intro e;subst e;simp only [St.entry,eB,QS,pS] at hd';subst hd';cases hl'
  simp only [St.entry,cj hne,QB] at hd';have h1:=(hS.owns d' e' b hd' hl' hb').2;by_cases e:b=g
  ·subst e;exact absurd (hS.inj d' d e' _ b hd' hl' hd rfl hb' (by rw [hb]; rfl)) hne
  ·simpa [e] using h1)
 have hS3:=hS2.entry (d:=d) (e:=.frozm k V m) (.inr ⟨g,es,clock,by rw [hb],by simp,ci (fun x _=>dJ (fun cs=>Ty.holds_mono hle V x cs)) _ _ hm⟩) (fun b h=>by cases h) (fun d' e' b _ h=>by cases h)
 have e2:(S.entry d .dead).entry d (.frozm k V m)=S.entry d (.frozm k V m):=by
  unfold St.entry;simp only [St.mk.injEq,Sb,SI];funext x;cases Nat.beq x d <;> rfl
 rw [e2] at hS3;exact ⟨_,g,es,clock,hle,hb,hg,hst,by simp,ci (fun x _=>dJ (fun cs=>Ty.holds_mono hle V x cs)) _ _ hm,hS3⟩
theorem x3 (hS:SatB M p0 w0 S tm w p β) (d:Nat):∃ p',PH.le p p'/\SatB M p0 w0 (S.freeze1 d) tm w p' β:=by
 unfold St.freeze1;split
 ·rename_i e T xs hd;split
  ·exact ⟨p,PH.le.refl p,hS⟩
  ·rcases p9 hS hd with ⟨rfl,hb⟩ | ⟨g,cap,cur,l,hb,hg,hc,hr,hl,hbig⟩
   ·refine ⟨p,PH.le.refl p,hS.entry (d:=d) (e:=.froz T []) ?_ (fun b h=>by cases h) (fun d' e' b _ h=>by cases h)⟩;exact ⟨none,0,[],by rw [hb]; rfl,by simp,by simp,rfl,fun h=>absurd rfl h⟩
   ·have hpg:p g=none:=(hS.owns d _ g hd rfl (by rw [hb]; rfl)).2;refine ⟨fun b=>if b=g then some (.cells cur) else p b,fun b cs h=>?_,?_⟩
    ·by_cases e:b=g
     ·subst e; rw [hpg] at h; cases h
     ·simpa [e] using h
    ·have hle:PH.le p (fun b=>if b=g then some (.cells cur) else p b):=fun b cs h=>by
      by_cases e:b=g
      ·subst e; rw [hpg] at h; cases h
      ·simpa [e] using h
     have hS1:SatB M p0 w0 (S.entry d .dead) tm w p β:=hS.entry trivial (fun b h=>by cases h) (fun d' e' b _ h=>by cases h)
     have hS2:=hS1.more hle (fun b cs h=>by
      by_cases e:b=g
      ·subst e;simp only [if_true,pS] at h;subst h;exact ⟨_,_,hg⟩
      ·simp only [e,QW] at h;exact hS.agr b cs h) (fun b cs h=>by
      by_cases e:b=g
      ·subst e;exact .inr ((hS.owns d _ b hd rfl (by rw [hb]; rfl)).1.symm)
      ·simp only [e,QW] at h;exact .inl h) (fun d' e' b hd' hl' hb'=>by
      have hne:d'≠d:=by
       intro e;subst e;simp only [St.entry,eB,QS,pS] at hd';subst hd';cases hl'
      simp only [St.entry,cj hne,QB] at hd';have h1:=(hS.owns d' e' b hd' hl' hb').2;by_cases e:b=g
      ·subst e;exact absurd (hS.inj d' d e' _ b hd' hl' hd rfl hb' (by rw [hb]; rfl)) hne
      ·simpa [e] using h1)
     have hS3:=hS2.entry (d:=d) (e:=.froz T xs) ⟨_,cap,l,by rw [hb],hc,hbig,c8 (fun x cs h=>Ty.holds_mono hle T x cs h) _ _ hr,fun _=>⟨g,0,rfl,fun j u hu=>by
      simp only [PH.cell,if_true,Sg,Rl,Blk.get];exact hl j u hu⟩⟩ (fun b h=>by cases h) (fun d' e' b _ h=>by cases h)
     have e2:(S.entry d .dead).entry d (.froz T xs)=S.entry d (.froz T xs):=by
      unfold St.entry;simp only [St.mk.injEq,Sb,SI];funext x;cases Nat.beq x d <;> rfl
     rwa [e2] at hS3
 ·rename_i k V m hd;split
  ·exact ⟨p,PH.le.refl p,hS⟩
  ·obtain ⟨p',_,_,_,h1,_,_,_,_,_,h2⟩:=hS.frozeMap hd;exact ⟨p',h1,h2⟩
 ·exact ⟨p,PH.le.refl p,hS⟩
theorem bZ:∀ (ds:List Nat) (S:St) (p:PH),SatB M p0 w0 S tm w p β->∃ p',PH.le p p'/\SatB M p0 w0 (S.freeze ds) tm w p' β
 | [],S,p,hS=>⟨p,PH.le.refl p,hS⟩
 | d::ds,S,p,hS=>by
  obtain ⟨p1,h1,h2⟩:=x3 hS d;obtain ⟨p2,h3,h4⟩:=bZ ds (S.freeze1 d) p1 h2;exact ⟨p2,h1.trans h3,h4⟩
theorem Ez (S:St) (d:Nat):(S.freeze1 d).env=S.env/\(S.freeze1 d).n=S.n/\(S.freeze1 d).lock=S.lock:=by
 unfold St.freeze1;split
 ·split <;> exact ⟨rfl,rfl,rfl⟩
 ·split <;> exact ⟨rfl,rfl,rfl⟩
 ·exact ⟨rfl,rfl,rfl⟩
theorem cQ:∀ (ds:List Nat) (S:St),(S.freeze ds).env=S.env/\(S.freeze ds).n=S.n/\(S.freeze ds).lock=S.lock
 | [],S=>⟨rfl,rfl,rfl⟩
 | d::ds,S=>by
  have h1:=Ez S d;have h2:=cQ ds (S.freeze1 d);exact ⟨h2.1.trans h1.1,h2.2.1.trans h1.2.1,h2.2.2.trans h1.2.2⟩
theorem G6 (ds:List Nat) (S:St) (x:Operand):(S.freeze ds).val x=S.val x:=by
 unfold St.val;cases x <;> simp only [(cQ ds S).1]
theorem SatB.alloc (hS:SatB M p0 w0 S tm w p β) (o:Obj):SatB M p0 w0 S tm (w.alloc o) p β :=
 hS.grow rfl rfl rfl (by simp) (fun b hb=>by show (w.heap.push o)[b]?=w.heap[b]?; rw [Array.getElem?_push,if_neg (Nat.ne_of_lt hb)])
theorem SatB.drew (hS:SatB M p0 w0 S tm w p β):SatB M p0 w0 S tm w.drew p β :=
 hS.grow rfl rfl rfl (QI _) (fun _ _=>rfl)
theorem SatB.newObj (hS:SatB M p0 w0 S tm w p β) {o:Obj} {d:Nat} {e:LE} {v:Value} (hv:b8 v=some w.heap.size)
  (hs:e.sat p (fun x=>if x=d then v else β x) (w.alloc o) d):SatB M p0 w0 (S.fresh d e) tm (w.alloc o) p (fun x=>if x=d then v else β x):=by
 refine (hS.alloc _).fresh hs (fun b _ hb=>?_) (fun d' e' b _ _ hd hl hb hb'=>?_)
 ·rw [hv] at hb;injection hb with hb
  subst hb;refine ⟨.inr hS.keep.size,?_⟩;cases hp:p w.heap.size with
  | none=>rfl
  | some c=>have:=hS.agr.lt hp; omega
 ·rw [hv] at hb;injection hb with hb
  subst hb;have:=LE.sat_lt d' e' hl (hS.lhs d' e' hd) hb';omega
theorem SatB.newEntry (hS:SatB M p0 w0 S tm w p β) {cs:Array Value} {t:TypeId} {d:Nat} {e:LE} {v:Value} (hv:b8 v=some w.heap.size)
  (hs:e.sat p (fun x=>if x=d then v else β x) (w.alloc (.cells cs t)) d):SatB M p0 w0 (S.fresh d e) tm (w.alloc (.cells cs t)) p (fun x=>if x=d then v else β x):=hS.newObj hv hs
theorem SatB.turn (hS:SatB M p0 w0 S tm w p β) {d:Nat} {e e':LE} {b:Nat} {w':World} (hd:S.lh d=some e) (hl:e.live=true) (hb:b8 (β d)=some b)
  (ho:w'.os=w.os) (ht:w'.tape=w.tape) (hp:w'.output=w.output) (hz:w'.heap.size=w.heap.size) (hblk:∀ i,i≠b->w'.heap[i]?=w.heap[i]?) (hs:e'.sat p β w' d) :
  SatB M p0 w0 (S.entry d e') tm w' p β:=by
 obtain ⟨hM,hpb⟩:=hS.owns d e b hd hl hb;have h1:SatB M p0 w0 (S.entry d .dead) tm w p β:=hS.entry trivial (fun b h=>by cases h) (fun d' e' b _ h=>by cases h)
 have h2:SatB M p0 w0 (S.entry d .dead) tm w' p β:=by
  refine ⟨h1.keep.trans_grow ho ht hp (by omega) (fun i _ hm hi=>hblk i (fun e=>?_)),fun i cs hi=>?_,h1.old,h1.size,fun d' e'' hd'=>?_,h1.owns,h1.inj,h1.env⟩
  ·subst e;rcases hM with h | h
   ·exact hm h
   ·omega
  ·rw [hblk i (fun e2=>by subst e2; rw [hpb] at hi; cases hi)];exact h1.agr i cs hi
  ·refine LE.sat_world d' e'' (h1.lhs d' e'' hd') (fun b' hl' hb'=>hblk b' (fun e2=>?_));subst e2
   have hne:d'≠d:=by
    intro e3;subst e3;simp only [St.entry,eB,QS,pS] at hd';subst hd';cases hl'
   simp only [St.entry,cj hne,QB] at hd';exact hne (hS.inj d' d e'' e b' hd' hl' hd hl hb' hb)
 have h3:=h2.entry (d:=d) (e:=e') hs (fun b' _ hb'=>by rw [hb] at hb'; injection hb' with hb'; subst hb'; exact ⟨hM,hpb⟩) (fun d' e'' b' hne _ hd' hl' hb' hb''=>by
  simp only [St.entry,cj hne,QB] at hd';rw [hb] at hb';injection hb' with hb'
  subst hb';exact hne (hS.inj d' d e'' e b hd' hl' hd hl hb'' hb))
 have e2:(S.entry d .dead).entry d e'=S.entry d e':=by
  unfold St.entry;simp only [St.mk.injEq,Sb,SI];funext x;cases Nat.beq x d <;> rfl
 rwa [e2] at h3
theorem cf (w:World) (b:Nat) (cs:Array Value) {cur:Array Value} {t:TypeId} {fz:Nat×Nat} (h:w.heap[b]?=some (.cells cur t fz)) :
  (w.setRow b cs).heap[b]?=some (.cells cs t fz)/\(w.setRow b cs).os=w.os/\(w.setRow b cs).tape=w.tape/\(w.setRow b cs).output=w.output/\(w.setRow b cs).heap.size=w.heap.size /\
   ∀ i,i≠b->(w.setRow b cs).heap[i]?=w.heap[i]?:=by
 refine ⟨?_,rfl,rfl,rfl,by simp [World.setRow],fun i hi=>?_⟩
 ·simp [World.setRow,Array.getElem?_modify,h]
 ·simp [World.setRow,Array.getElem?_modify,Ne.symm hi]
theorem mX {t:TypeId} {n:Nat} (hn:cellsIn P t=some n) {b o:Nat} {cur:Array Value} {e:TypeId} (hg:w.heap[b]?=some (.cells cur e (0,0))) {v:Value} (hv:v.cells.size=n)
  (h1:∀ u∈v.cells.toList,u.oneCell'=true) (hfit:o+n<=cur.size) :
  (Instr.storeAt t (.pointer (some ⟨b,o,none⟩)) v).run P w=.ok () (w.setRow b (cur.toList.take o++v.cells.toList++cur.toList.drop (o+n)).toArray):=by
 obtain ⟨i,hi,hs⟩:=BR hn;have:=run_storeCells_at P b o e v.cells.toList 0 cur w hg (by simp; omega) h1;simp only [RQ] at this;have hl:v.cells.toList.length=n:=by simpa using hv
 rw [hl] at this;simp only [Instr.storeAt,Instr.sureAddr,storeVar,sizeOf,typeInfo,QL,QU,QC,Sf,hi,hs,hv];simp only [ne_eq,not_true,QW];exact this
theorem tr {a:AV} {v:Value} (hS:SatB M p0 w0 S tm w p β) (h:a.one p β v) (hok:jj S.lh a=true):v.oneCell'=true:=by
 cases a <;> (first | (cases hok; done) | skip)
 ·rw [h.1]; rfl
 ·have h':v=.bool _:=h; rw [h']; rfl
 ·rw [h.1]; rfl
 ·have h':v=.slice none 0 0:=h; rw [h']; rfl
 ·obtain ⟨A,c,e,_⟩:=rq (p:=p) h;rw [e]; rfl
 ·rename_i d;have h':v=β d:=h;simp only [jj] at hok;split at hok
  ·rename_i hd;obtain ⟨A,c,e,_⟩:=AO hS hd;rw [h',e]; rfl
  ·rename_i hd;obtain ⟨A,c,e,_⟩:=rq (hS.lhs _ _ hd);rw [h',e]; rfl
  ·cases hok
 ·exact h.elim
 ·obtain ⟨b,_,e⟩:=h; rw [e]; rfl
 ·obtain ⟨b,o,es,e,_⟩:=h; rw [e]; rfl
 ·obtain ⟨v1,v2,e,_⟩:=h; rw [e]; rfl
 ·rename_i d;have h':v=β d:=h;simp only [jj] at hok;split at hok
  ·rename_i hd;obtain ⟨r,es,clock,e,_⟩:=hS.lhs d _ hd;rw [h',e]; rfl
  ·rename_i hd;rcases hS.lhs d _ hd with ⟨e,_⟩ | ⟨_,_,_,e,_⟩ <;> (injection e with e _; rw [h',e]; rfl)
  ·cases hok
 ·have h':(Ty.map _ _).holds p _ [v]:=h;rcases h' with ⟨e,_⟩ | ⟨_,_,_,e,_⟩ <;> (injection e with e _; rw [e]; rfl)
 ·have h':v=.map none:=h; rw [h']; rfl
 ·have h':v=.nilFunc:=h; rw [h']; rfl
def Fi (lh:Nat->Option LE):AV->Bool
 | .pair a b=>(match a with | .pair ..=>false | _=>true)&&jj lh a&&Fi lh b
 | a=>jj lh a
theorem lw (hS:SatB M p0 w0 S tm w p β):∀ (a:AV) (cs:List Value),a.cells p β cs->Fi S.lh a=true->∀ u∈cs,u.oneCell'=true:=by
 intro a
 induction a with
 | pair x y _ ih =>
  intro cs hc hok u hu
  match cs,hc with
  | v::cs,hc =>
   simp only [Fi,CF] at hok;rcases Qs.1 hu with rfl | hu
   ·exact tr hS hc.1 hok.1.2
   ·exact ih cs hc.2 hok.2 u hu
 | _ =>
  intro cs hc hok u hu;obtain ⟨v,rfl,hv⟩:=(AV.cells_leaf _ (by intro x y e; cases e) cs).1 hc;simp only [QA] at hu;subst hu;exact tr hS hv hok
theorem fM {α:Type} {h:α->List Value->Prop} {k:Value->Prop} (hk:∀ x cs,h x cs->∀ u∈cs,k u):∀ (xs:List α) (cs:List Value),aN h xs cs->∀ u∈cs,k u
 | [],cs,hr=>by simp only [aN] at hr; subst hr; simp
 | x::xs,cs,⟨c1,c2,e,h1,h2⟩=>by
  subst e;intro u hu;rcases Qx.1 hu with hu | hu
  ·exact hk _ _ h1 u hu
  ·exact fM hk xs _ h2 u hu
theorem dD:∀ (T:Ty) (x:T.den) (cs:List Value),T.holds p x cs->∀ u∈cs,u.oneCell'=true
 | .int _,_,_,h=>by rw [h.1]; intro u hu; simp only [QA] at hu; subst hu; rfl
 | .bool,_,_,h=>by simp only [Ty.holds] at h; rw [h]; intro u hu; simp only [QA] at hu; subst hu; rfl
 | .str,_,_,h=>by rw [h.1]; intro u hu; simp only [QA] at hu; subst hu; rfl
 | .arr _,_,_,⟨_,_,_,e,_⟩=>by rw [e]; intro u hu; simp only [QA] at hu; subst hu; rfl
 | .nil,_,_,h=>by simp only [Ty.holds] at h; rw [h]; intro u hu; simp only [QA] at hu; subst hu; rfl
 | .ref _,_,_,⟨_,_,_,e,_⟩=>by rw [e]; intro u hu; simp only [QA] at hu; subst hu; rfl
 | .fn _ _,_,_,⟨_,_,_,e,_⟩=>by rw [e]; intro u hu; simp only [QA] at hu; subst hu; rfl
 | .map _ _,_,_,.inl ⟨e,_⟩=>by rw [e]; intro u hu; simp only [QA] at hu; subst hu; rfl
 | .map _ _,_,_,.inr ⟨_,_,_,e,_⟩=>by rw [e]; intro u hu; simp only [QA] at hu; subst hu; rfl
 | .pair A B,_,_,⟨c1,c2,e,h1,h2⟩=>by
  rw [e];intro u hu;rcases Qx.1 hu with hu | hu
  ·exact dD A _ _ h1 u hu
  ·exact dD B _ _ h2 u hu
end
def AV.asRow (lh:Nat->Option LE):AV->Option ((T:Ty)×List T.den)
 | .sl T xs=>some ⟨T,xs⟩
 | .own d=>match lh d with
  | some (.row _ T xs)=>some ⟨T,xs⟩
  | some (.froz T xs)=>some ⟨T,xs⟩
  | _=>none
 | _=>none
def AV.asRowP (lh:Nat->Option LE) (a:AV):Option (List Prop×((T:Ty)×List T.den)) :=
 match a with
 | .osl d T i n=>match lh d with
  | some (.row _ T' xs)=>if T'=T then some ([i+n<=xs.length],⟨T',(xs.drop i).take n⟩) else none
  | _=>none
 | a=>match a.asRow lh with
  | some r=>some ([],r)
  | none=>none
def ft (P:Program) (e:TypeId) (T:Ty):Bool :=
 match P.info? e with
 | some i=>Nat.beq i.size T.size&&Nat.ble i.bytes T.bytes&&(match i.zero with | some z=>Nat.beq z.cells.toList.length T.size | none=>false)
 | none=>false
def eN (P:Program) (t:TypeId):Option TypeId :=
 match P.underlying t with
 | some (.slice e)=>some e
 | _=>none
def ma:Operand->Operand->Bool
 | .tmp a,.tmp b=>Nat.beq a b
 | .const (.int j a),.const (.int k b)=>(j == k)&&(a == b)
 | _,_=>false
def fN (lh:Nat->Option LE) (T:Ty) (ρ:Operand->AV):Nat->List (Nat×Operand)->Option (List T.den)
 | _,[]=>some []
 | k,(i,x)::rest=>if Nat.beq i k then match (ρ x).toTy false lh T,fN lh T ρ (k+1) rest with
   | some y,some ys=>some (y::ys)
   | _,_=>none
  else none
def kR (S:St) (d:Nat):Nat->List RT->Bool
 | _,[]=>true
 | k,.dat _::Rs=>kR S d (k+1) Rs
 | k,.own _ _::Rs=>!S.lock (bB d k)&&kR S d (k+1) Rs
 | k,.map _ _::Rs=>!S.lock (bB d k)&&kR S d (k+1) Rs
def Iv (S:St) (d:Nat) (c:AV):Option (List Prop×St) :=
 if jj S.lh c&&Nat.blt d S.n&&!S.lock d then some ([],(S.fresh d (.cells (c.scrub (fun x=>Nat.beq x d)))).set d (.loc d 0)) else none
def mw (P:Program) (S:St) (d:Nat) (elem:TypeId):Option (List Prop×St) :=
 match P.info? elem with
 | some i=>match i.zero with
  | some z=>if Nat.blt 0 z.cells.toList.length&&Nat.blt d S.n&&!S.lock d then some ([],(S.fresh d (.cells (AV.ofCells z.cells.toList))).set d (.loc d 0)) else none
  | none=>none
 | none=>none
def kW (P:Program) (S:St) (t:TypeId) (ad v:AV):Option (List Prop×St) :=
 match cellsIn P t with
 | none=>none
 | some n=>if Nat.beq n 0 then none else match ad with
  | .loc d off=>match S.lh d with
   | some (.cells c)=>if !S.lock d&&Nat.beq v.len n&&Nat.ble (off+n) c.len&&jj S.lh v&&Fi S.lh v then some ([],S.entry d (.cells (AV.put off v n c))) else none
   | _=>none
  | .el d T i off=>match (S.freeze v.owns).lh d with
   | some (.row e T' xs)=>if h:T'=T then
     (if !S.lock d&&Nat.beq v.len n&&Nat.ble (off+n) T.size&&jj S.lh v&&Fi S.lh v then
      match AV.toTy false (S.freeze v.owns).lh T (AV.put off v n (T.av ((h ▸ xs).getD i T.dflt))) with
      | some y=>some ([i<xs.length],(S.freeze v.owns).entry d (.row e T ((h ▸ xs).set i y)))
      | none=>none
     else none) else none
   | some (.cells c)=>match c.putI T i v with
    | some (N,c')=>if !S.lock d&&Nat.beq n 1&&Nat.beq off 0 then some ([i<N],(S.freeze v.owns).entry d (.cells c')) else none
    | none=>none
   | _=>none
  | _=>none
def fW (ss:Specs) (S:St) (f:FuncId) (args:List Operand):St :=
 match ss f with
 | some s=>if s.al then S.freeze ((args.map (S.look [])).flatMap AV.owns) else S
 | none=>S
def AV.rowOf (lh:Nat->Option LE) (e:TypeId) (T:Ty):AV->Option (Nat×List T.den)
 | .own n=>match lh n with
  | some (.row e' T' xs)=>if h:T'=T then (if Nat.beq e' e then some (n,h ▸ xs) else none) else none
  | _=>none
 | _=>none
def Ar (lh:Nat->Option LE) (r:RowFn) (n:Nat) (rest:List AV):Option (List r.T.den) :=
 match r.tail,rest.getLast? with
 | false,_=>some []
 | true,some b=>match b.rowOf lh r.e r.T with
  | some (m,ys)=>if Nat.beq m n then none else some ys
  | none=>none
 | true,none=>none
def RowFn.mid {α:Type} (r:RowFn) (rest:List α):List α:=bif r.tail then rest.dropLast else rest
def jQ (S:St) (d:Nat) (r:RowFn) (a:AV) (rest:List AV):Option (List Prop×St) :=
 match a.rowOf (S.freeze ((r.mid rest).flatMap AV.owns)).lh r.e r.T with
 | some (n,xs)=>match Ar (S.freeze ((r.mid rest).flatMap AV.owns)).lh r n rest,Ll false (S.freeze ((r.mid rest).flatMap AV.owns)).lh r.Ts (r.mid rest) with
  | some ys,some x=>if !S.lock n&&!S.lock d&&Nat.blt d S.n then
      some ([r.pre xs ys x],bif r.out then (((S.freeze ((r.mid rest).flatMap AV.owns)).entry n .dead).fresh d (.row r.e r.T (r.F xs ys x))).set d (.own d)
       else ((S.freeze ((r.mid rest).flatMap AV.owns)).entry n (.row r.e r.T (r.F xs ys x))).set d .tnil) else none
  | _,_=>none
 | none=>none
def dn (S:St) (n:Nat):List Nat:=match S.lh n with
 | some (.cells c)=>c.owns
 | _=>[]
def jR (S:St) (d:Nat) (r:BoxFn) (a:AV) (rest:List AV):Option (List Prop×St) :=
 match a with
 | .loc n 0=>match (S.freeze (dn S n++rest.flatMap AV.owns)).lh n with
  | some (.cells c)=>match c.toTy false (S.freeze (dn S n++rest.flatMap AV.owns)).lh r.T,Ll false (S.freeze (dn S n++rest.flatMap AV.owns)).lh r.Ts rest with
   | some x,some y=>if !S.lock n&&Nat.blt d S.n then
     some ([r.pre x y],(lH d 0 r.Rs (r.F x y).1 ((S.freeze (dn S n++rest.flatMap AV.owns)).entry n (.cells (r.T.av (r.F x y).2)))).set d (HW d r.Rs (r.F x y).1)) else none
   | _,_=>none
  | _=>none
 | _=>none
def mr (P:Program) (ss:Specs) (S:St) (d:Nat) (f:FuncId) (args:List Operand):Option (List Prop×St) :=
 match ss.row f with
 | some (.row r)=>match args with
  | []=>none
  | a::rest=>if cX P f then jQ S d r (S.look [] a) (rest.map (S.look [])) else none
 | some (.box r)=>match args with
  | []=>none
  | a::rest=>if cX P f then jR S d r (S.look [] a) (rest.map (S.look [])) else none
 | none=>match nx P ss (fW ss S f args).lh f (args.map ((fW ss S f args).look [])) with
  | some (q,⟨Rs,x⟩)=>if Nat.blt d S.n&&kR S d 0 Rs then some ([q],(lH d 0 Rs x (fW ss S f args)).set d (HW d Rs x)) else none
  | none=>none
def Mr (d:Nat):AV->Bool
 | .own d2=>!Nat.beq d d2
 | _=>true
def ki (P:Program) (S:St) (d:Nat) (t:TypeId) (s x:AV):Option (List Prop×St) :=
 match eN P t with
 | none=>none
 | some e=>match x.asRow S.lh with
  | none=>none
  | some ⟨T,ys⟩=>if ft P e T&&Nat.blt d S.n&&!S.lock d then match s with
   | .nils=>some ([ys.length * T.bytes<=aK],(S.fresh d (.row e T ys)).set d (.own d))
   | .own d1=>match S.lh d1 with
    | some (.row e' T' xs)=>if h:T'=T then
      (if Nat.beq e' e&&!S.lock d1&&Mr d1 x then some ([(xs.length+ys.length) * T.bytes<=aK],((S.entry d1 .dead).fresh d (.row e T ((h ▸ xs)++ys))).set d (.own d)) else none)
     else none
    | _=>none
   | _=>none
  else none
def px (P:Program) (S:St) (d:Nat) (t:TypeId) (l:AV):Option (List Prop×St) :=
 match eN P t with
 | none=>none
 | some e=>match xD P 12 e with
  | none=>none
  | some T=>match P.info? e with
   | none=>none
   | some i=>match i.zero with
    | none=>none
    | some z=>match AV.toTy false (fun _=>none) T (AV.ofCells z.cells.toList),l with
     | some y,.int _ n=>if ft P e T&&Nat.blt d S.n&&!S.lock d then some ([0<=n,n.toNat * T.bytes<=aK],(S.fresh d (.row e T (List.replicate n.toNat y))).set d (.own d)) else none
     | _,_=>none
def AZ (ρ:Operand->AV):Nat->List (Nat×Operand)->Option AV
 | _,[]=>none
 | k,(i,x)::rest=>match ρ x with
  | .loc n off=>if Nat.beq i k then (match rest with
   | []=>some (.loc n off)
   | _::_=>match AZ ρ (k+1) rest with
    | some c=>some (.pair (.loc n off) c)
    | none=>none) else none
  | _=>none
def kY (P:Program) (S:St) (d:Nat) (t:TypeId) (len:Nat) (parts:List (Nat×Operand)):Option (List Prop×St) :=
 match eN P t with
 | none=>none
 | some e=>match P.info? e with
  | none=>none
  | some i=>match i.zero,AZ (S.look []) 0 parts with
   | some z,some c=>if Nat.beq i.size 1&&Nat.beq z.cells.toList.length 1&&Nat.beq parts.length len&&Nat.ble len 1000&&Nat.blt d S.n&&!S.lock d then
     some ([],(S.fresh d (.cells (c.scrub (fun x=>Nat.beq x d)))).set d (.psl d 0 len)) else none
   | _,_=>none
def mv (P:Program) (S:St) (d:Nat) (t:TypeId) (len:Nat) (parts:List (Nat×Operand)):Option (List Prop×St) :=
 match eN P t with
 | none=>none
 | some e=>match xD P 12 e with
  | none=>none
  | some T =>
   let S1:=S.freeze ((parts.map (fun x=>S.look [] x.2)).flatMap AV.owns)
   match fN S1.lh T (S1.look []) 0 parts with
   | none=>none
   | some ys=>if ft P e T&&Nat.blt d S.n&&!S.lock d&&Nat.beq parts.length len&&Nat.ble (len * T.size) 16777216&&Nat.ble (len * T.bytes) aK then some ([],(S1.fresh d (.row e T ys)).set d (.own d)) else none
def jI (P:Program) (S:St) (d:Nat) (t:TypeId) (len:Nat) (parts:List (Nat×Operand)):Option (List Prop×St) :=
 match mv P S d t len parts with
 | some r=>some r
 | none=>kY P S d t len parts
def AV.span (lh:Nat->Option LE):AV->Option (Nat×Nat×Nat)
 | .osl d _ i n=>some (d,i,n)
 | .own d=>match lh d with
  | some (.row _ _ xs)=>some (d,0,xs.length)
  | _=>none
 | _=>none
def O5 (T:Ty):AV->Bool
 | .osl _ T' _ _=>decide (T'=T)
 | _=>true
def pA (P:Program) (S:St) (r:Nat) (t:TypeId) (x y:AV):Option (List Prop×St) :=
 match x.span S.lh,y.asRowP S.lh with
 | some (d,i,n),some (qs,⟨T',ys⟩)=>match S.lh d with
  | some (.row e T xs)=>if h:T'=T then
    (if O5 T x&&gI P t T&&Nat.beq T.size 1&&!S.lock d&&Mr d y&&Nat.blt r S.n then
     some (qs++[i+n<=xs.length],(S.entry d (.row e T (xs.take i++((h ▸ ys).take (min ys.length n)++xs.drop (i+min ys.length n))))).set r (.int .i64 ((min ys.length n:Nat):Int)))
    else none) else none
  | _=>none
 | _,_=>none
def us (P:Program) (S:St) (t:TypeId) (x:AV):Option (List Prop×St) :=
 match x with
 | .osl d T i n=>match S.lh d with
  | some (.row e T' xs)=>if h:T'=T then match eN P t with
   | none=>none
   | some e'=>match P.info? e' with
    | none=>none
    | some inf=>match inf.zero with
     | none=>none
     | some z=>match AV.toTy false (fun _=>none) T (AV.ofCells z.cells.toList) with
      | none=>none
      | some y=>if !S.lock d&&Nat.beq inf.size T.size then some ([i+n<=xs.length],S.entry d (.row e T ((h ▸ xs).take i++(List.replicate n y++(h ▸ xs).drop (i+n))))) else none
   else none
  | _=>none
 | _=>none
def aX (xs:List Int):List UInt8:=xs.map fun n=>UInt8.ofNat n.toNat
def uu (lh:Nat->Option LE) (a:AV):Option (List Int) :=
 match a with
 | .nils=>some []
 | a=>match a.asRow lh with
  | some ⟨.int .u8,xs⟩=>some xs
  | _=>none
def mt (P:Program) (S:St) (d:Nat) (src dst:TypeId) (a:AV):Option (List Prop×St) :=
 match P.underlying src,P.underlying dst with
 | some (.slice e),some .string=>match P.underlying e with
  | some (.int .u8)=>match uu S.lh a with
   | some xs=>if Nat.blt d S.n then some ([],S.set d (.str (aX xs))) else none
   | none=>none
  | _=>none
 | _,_=>none
def fh (P:Program) (S:St) (d:Nat) (t t':TypeId) (s x:AV):Option (List Prop×St) :=
 match eN P t,P.underlying t' with
 | some e,some (.int _)=>match xD P 12 e with
  | none=>none
  | some T=>match P.info? e with
   | none=>none
   | some i=>match i.zero with
    | none=>none
    | some z=>match AV.toTy false (fun _=>none) T (AV.ofCells z.cells.toList),s,x with
     | some y,.nils,.int _ n=>if ft P e T&&Nat.blt d S.n&&!S.lock d then some ([0<n,n.toNat * T.bytes<=aK],(S.fresh d (.row e T (List.replicate n.toNat y))).set d (.own d)) else none
     | _,_,_=>none
 | _,_=>none
def wP (P:Program) (S:St) (r:Nat) (t:TypeId) (x h:AV):Option (List Prop×St) :=
 match x,h with
 | .own d,.int _ b=>match S.lh d with
  | some (.row e T xs)=>if gI P t T&&!S.lock d&&Nat.blt r S.n&&!S.lock r then
    some ([0<=b,b<=(xs.length:Int)],((S.entry d .dead).fresh r (.row e T (xs.take b.toNat))).set r (.own r)) else none
  | _=>none
 | _,_=>none
def ob (P:Program) (S:St) (d:Nat) (t:TypeId):Option (List Prop×St) :=
 match xD P 12 t with
 | some (.map k V)=>if Nat.blt d S.n&&!S.lock d then some ([],(S.fresh d (.mapp k V [])).set d (.mp d)) else none
 | _=>none
def uq (P:Program) (S:St) (d:Nat) (t:TypeId) (x:AV):Option (List Prop×St) :=
 match P.underlying t,x with
 | some (.map _ _),.mp m=>match S.lh m with
  | some (.mapp k V l)=>if Nat.blt d S.n&&!S.lock d&&!S.lock m then some ([],((S.entry m (.frozm k V l)).fresh d (.iter k V l none)).set d (.loc d 0)) else none
  | _=>none
 | _,_=>none
def g9 (P:Program) (S:St) (t:TypeId) (m x v:AV):Option (List Prop×St) :=
 match pk P t,m,x with
 | some (k,_,_),.mp d,.int k' n=>match (S.freeze v.owns).lh d with
  | some (.mapp k'' V l)=>if k'=k/\k''=k then (if S.lock d then none else match AV.toTy false (S.freeze v.owns).lh V v with
    | some y=>some ([],(S.freeze v.owns).entry d (.mapp k'' V (gp l n y)))
    | none=>none) else none
  | _=>none
 | _,_,_=>none
def AV.leafB:AV->Bool
 | .own _=>true
 | .nils=>true
 | _=>false
def eU (P:Program) (S:St) (t:TypeId) (m x v:AV):Option (List Prop×St) :=
 match pk P t,m,x with
 | some (k,_,_),.mp d,.int k' n=>match S.lh d with
  | some (.mapo k'' V l x0 _)=>if k'=k/\k''=k then (if S.lock d then none else if v.leafB then some ([n=x0],S.entry d (.mapo k'' V l x0 v)) else none) else none
  | _=>none
 | _,_,_=>none
def lT (P:Program) (S:St) (t:TypeId) (m x v:AV):Option (List Prop×St) :=
 match pk P t,m,x with
 | some (k,_,_),.mp d,.int k' n=>match S.lh d with
  | some (.mapp k'' V l)=>if k'=k/\k''=k then (if S.lock d then none else if v.leafB then some ([],S.entry d (.mapo k'' V (gp (l.map fun e=>(e.1,some e.2)) n none) n v)) else none) else none
  | _=>none
 | _,_,_=>none
def gv (o:Bool) (P:Program) (S:St) (t:TypeId) (m x v:AV):Option (List Prop×St) :=
 bif o then lT P S t m x v else match eU P S t m x v with
  | some r=>some r
  | none=>g9 P S t m x v
def Nw (P:Program) (ss:Specs) (S:St) (o:Oper):Option (List Prop×St) :=
 match o.dst with
 | none=>match o.op with
  | .store t ad v=>kW P S t (S.look [] ad) (S.look [] v)
  | .mapUpdate t m x v=>gv ss.opn P S t (S.look [] m) (S.look [] x) (S.look [] v)
  | .insert t m x v=>gv ss.opn P S t (S.look [] m) (S.look [] x) (S.look [] v)
  | .call { callee:=.builtin .clear,args,argTypes }=>match args.toList,argTypes.toList with
   | [x],[t]=>us P S t (S.look [] x)
   | _,_=>none
  | _=>none
 | some d=>match o.op with
  | .box _ x=>Iv S d (S.look [] x)
  | .alloc elem=>mw P S d elem
  | .call { callee:=.value (.func f),args,.. }=>mr P ss S d f args.toList
  | .call { callee:=.builtin .append,args,argTypes }=>match args.toList,argTypes.toList with
   | [s,x],[t,t']=>if Nat.beq t t' then ki P S d t (S.look [] s) (S.look [] x) else fh P S d t t' (S.look [] s) (S.look [] x)
   | _,_=>none
  | .call { callee:=.builtin .copy,args,argTypes }=>match args.toList,argTypes.toList with
   | [x,y],[t,_]=>pA P S d t (S.look [] x) (S.look [] y)
   | _,_=>none
  | .makeSlice t l c=>if ma l c then px P S d t (S.look [] l) else none
  | .buildSlice t len parts=>jI P S d t len parts.toList
  | .slice t x none (some h) none=>wP P S d t (S.look [] x) (S.look [] h)
  | .convert src dst x=>mt P S d src dst (S.look [] x)
  | .makeMap t none=>ob P S d t
  | .range t x=>uq P S d t (S.look [] x)
  | .assign x=>if Nat.blt d S.n then some ([],S.set d (S.look [] x)) else none
  | _=>none
section
variable {M:Nat->Prop} {p0:PH} {w0:World} {S:St} {w:World} {p:PH} {β:Nat->Value} {P:Program} {a:Act}
def EOK (M:Nat->Prop) (p0:PH) (w0:World) (S':St) (P:Program) (o:Oper) (a:Act) (w:World):Prop :=
 ∀ (K:Act->World->Prop) (Q:Exit->Act->World->Prop),(∀ a' w',Sat M p0 w0 S' a'.tmps w'->a'.defers=a.defers->K a' w')->o.wp P a w K Q
theorem EOK.of_run {S':St} {o:Oper} {d:Nat} {v:Value} {w':World} (ho:o.dst=some d) (hs:(execOp a.eval o).run P w=.ok (.value v) w')
  (h:Sat M p0 w0 S' (a.tmps.setIfInBounds d v) w'):EOK M p0 w0 S' P o a w:=by
 intro K Q hK;unfold Oper.wp;rw [hs,Oper.upon_value,ho];exact hK _ w' h rfl
theorem dh {m n:Nat} (h:Nat.blt m n=true):m<n:=by simpa using h
theorem lQ (β:Nat->Value) (d:Nat) (v:Value):(fun x=>if x=d then v else β x) d=v:=by simp
theorem aL (tm:Array Value):gB [] tm:=by intro c hc; cases hc
theorem mL {c:AV} {cs:List Value} {d:Nat} {v:Value} (h:c.cells p β cs):(c.scrub (fun x=>Nat.beq x d)).cells p (fun x=>if x=d then v else β x) cs :=
 AV.cells_scrub (fun x hx=>by
  have:x≠d:=by intro e; subst e; simp at hx
  simp [this]) c cs h
theorem HQ (hS:SatB M p0 w0 S a.tmps w p β) {d b:Nat} (hd:d<S.n) (hb:β d=.pointer (some ⟨b,0,none⟩)) :
  SatB M p0 w0 (S.set d (.loc d 0)) (a.tmps.setIfInBounds d (.pointer (some ⟨b,0,none⟩))) w p β :=
 hS.set hd ⟨b,hb,rfl⟩
theorem EK (hS:SatB M p0 w0 S a.tmps w p β) {o:Oper} {d:Nat} {elem:TypeId} {x:Operand} (hd:o.dst=some d) (ho:o.op=.box elem x) {ps:List Prop} {S':St}
  (h:Iv S d (S.look [] x)=some (ps,S')):EOK M p0 w0 S' P o a w:=by
 unfold Iv at h;split at h <;> simp only [pS,zn,reduceCtorEq] at h <;> obtain ⟨rfl,rfl⟩:=h;rename_i hb;simp only [CF] at hb;have hv:=aS hS (aL _) x;have hc:=lA hS hv hb.1.1
 have hn:=hS.newEntry (cs:=(a.eval x).cells) (t:=elem) (d:=d) (e:=.cells ((S.look [] x).scrub (fun y=>Nat.beq y d))) (v:=.pointer (some ⟨w.heap.size,0,none⟩)) rfl
  ⟨w.heap.size,_,elem,lQ _ _ _,RZ w _,mL hc⟩
 refine EOK.of_run hd (v:=.pointer (some ⟨w.heap.size,0,none⟩)) (w':=w.alloc (.cells (a.eval x).cells elem)) ?_ ⟨p,_,HQ hn (dh hb.1.2) (lQ _ _ _)⟩;simp only [execOp,ho];rfl
theorem yf (hS:SatB M p0 w0 S a.tmps w p β) {o:Oper} {d:Nat} {elem:TypeId} (hd:o.dst=some d) (ho:o.op=.alloc elem) {ps:List Prop} {S':St}
  (h:mw P S d elem=some (ps,S')):EOK M p0 w0 S' P o a w:=by
 unfold mw at h;split at h <;> try cases h
 rename_i i hi;split at h <;> try cases h
 rename_i z hz;split at h <;> simp only [pS,zn,reduceCtorEq] at h <;> obtain ⟨rfl,rfl⟩:=h;rename_i hb;simp only [CF] at hb;have h0:=dh hb.1.1
 have hn:=hS.newEntry (cs:=z.cells) (t:=elem) (d:=d) (e:=.cells (AV.ofCells z.cells.toList)) (v:=.pointer (some ⟨w.heap.size,0,none⟩)) rfl
  ⟨w.heap.size,_,elem,lQ _ _ _,RZ w _,cD _ (by intro e; rw [e] at h0; simp at h0)⟩
 refine EOK.of_run hd (v:=.pointer (some ⟨w.heap.size,0,none⟩)) (w':=w.alloc (.cells z.cells elem)) ?_ ⟨p,_,HQ hn (dh hb.1.2) (lQ _ _ _)⟩;simp only [execOp,ho,Instr.alloc,QL,zeroValue,typeInfo,Sf,hi,hz,QC,QU];rfl
end
theorem iV {α:Type} (A B:List α) (n:Nat) (h:n=A.length):(A++B).take n=A:=by subst h; simp
theorem ri {α:Type} (A B:List α) (n:Nat) (h:n=A.length):(A++B).drop n=B:=by subst h; simp
theorem NG {α:Type} (A B C D E F vs:List α) (hC:vs.length=C.length) {s n o1 off N:Nat} (h1:o1=A.length) (h2:off=B.length) (h3:n=C.length) (h4:s=off+n+D.length) (h5:N=o1+s+E.length) :
  (((A++B++C++D++E++F).take (o1+off)++vs++(A++B++C++D++E++F).drop (o1+off+n)).take N) =
   (A++B++C++D++E).take o1++((((A++B++C++D++E).drop o1).take s).take off++vs++(((A++B++C++D++E).drop o1).take s).drop (off+n))++(A++B++C++D++E).drop (o1+s):=by
 have e1:(A++B++C++D++E++F).take (o1+off)=A++B:=by
  rw [show A++B++C++D++E++F=(A++B)++(C++D++E++F) by simp,iV]; simp; omega
 have e2:(A++B++C++D++E++F).drop (o1+off+n)=D++E++F:=by
  rw [show A++B++C++D++E++F=(A++B++C)++(D++E++F) by simp,ri]; simp; omega
 have e3:(A++B++C++D++E).take o1=A:=by
  rw [show A++B++C++D++E=A++(B++C++D++E) by simp,iV]; omega
 have e4:(A++B++C++D++E).drop o1=B++C++D++E:=by
  rw [show A++B++C++D++E=A++(B++C++D++E) by simp,ri]; omega
 have e5:(B++C++D++E).take s=B++C++D:=by rw [iV]; simp; omega
 have e6:(B++C++D).take off=B:=by rw [show B++C++D=B++(C++D) by simp,iV]; omega
 have e7:(B++C++D).drop (off+n)=D:=by rw [ri]; simp; omega
 have e8:(A++B++C++D++E).drop (o1+s)=E:=by rw [ri]; simp; omega
 rw [e1,e2,e3,e4,e5,e6,e7,e8];rw [show A++B++vs++(D++E++F)=(A++B++vs++D++E)++F by simp,iV]
 ·simp
 ·simp; omega
theorem FX {α:Type} (cur l vs:List α) {s n o1 off N:Nat} (hl:cur.take N=l) (hN:N<=cur.length) (h1:o1+s<=N) (h2:off+n<=s) (hv:vs.length=n) :
  ((cur.take (o1+off)++vs++cur.drop (o1+off+n)).take N)=l.take o1++(((l.drop o1).take s).take off++vs++((l.drop o1).take s).drop (off+n))++l.drop (o1+s):=by
 have hd:cur=cur.take o1++(cur.drop o1).take off++(cur.drop (o1+off)).take n++(cur.drop (o1+off+n)).take (s - off - n)++(cur.drop (o1+s)).take (N - o1 - s)++cur.drop N:=by
  have a1:cur=cur.take o1++cur.drop o1:=(Ru _ _).symm
  have a2:cur.drop o1=(cur.drop o1).take off++cur.drop (o1+off):=by
   have:cur.drop (o1+off)=(cur.drop o1).drop off:=by rw [RM]
   rw [this]; exact (Ru _ _).symm
  have a3:cur.drop (o1+off)=(cur.drop (o1+off)).take n++cur.drop (o1+off+n):=by
   have:cur.drop (o1+off+n)=(cur.drop (o1+off)).drop n:=by rw [RM]
   rw [this]; exact (Ru _ _).symm
  have a4:cur.drop (o1+off+n)=(cur.drop (o1+off+n)).take (s - off - n)++cur.drop (o1+s):=by
   have:cur.drop (o1+s)=(cur.drop (o1+off+n)).drop (s - off - n):=by rw [RM]; congr 1; omega
   rw [this]; exact (Ru _ _).symm
  have a5:cur.drop (o1+s)=(cur.drop (o1+s)).take (N - o1 - s)++cur.drop N:=by
   have:cur.drop N=(cur.drop (o1+s)).drop (N - o1 - s):=by rw [RM]; congr 1; omega
   rw [this]; exact (Ru _ _).symm
  calc cur=cur.take o1++cur.drop o1:=a1
   _=cur.take o1++((cur.drop o1).take off++((cur.drop (o1+off)).take n++((cur.drop (o1+off+n)).take (s - off - n)++((cur.drop (o1+s)).take (N - o1 - s)++cur.drop N)))):=by
    rw [<- a5,<- a4,<- a3,<- a2]
   _=_:=by simp
 have hl':l=cur.take o1++(cur.drop o1).take off++(cur.drop (o1+off)).take n++(cur.drop (o1+off+n)).take (s - off - n)++(cur.drop (o1+s)).take (N - o1 - s):=by
  rw [<- hl]
  conv=>lhs; rw [hd]
  rw [iV];simp; omega
 rw [hl']
 conv=>lhs; rw [hd]
 exact NG _ _ _ _ _ _ vs (by simp; omega) (by simp; omega) (by simp; omega) (by simp; omega) (by simp; omega) (by simp; omega)
section
variable {M:Nat->Prop} {p0:PH} {w0:World} {S:St} {w:World} {p:PH} {β:Nat->Value} {P:Program} {a:Act}
theorem sI {α:Type} {h:α->List Value->Prop} {n:Nat} (hn:∀ x cs,h x cs->cs.length=n):∀ (xs:List α) (cs:List Value) (i:Nat) (y:α) (ys:List Value),aN h xs cs->i<xs.length->h y ys ->
  aN h (xs.set i y) (cs.take (i * n)++ys++cs.drop ((i+1) * n))
 | [],_,_,_,_,_,hi,_=>by simp at hi
 | x::xs,cs,0,y,ys,⟨c1,c2,e,h1,h2⟩,_,hy=>by
  have l1:=hn _ _ h1;subst e;refine ⟨ys,c2,?_,hy,h2⟩;have:(c1++c2).drop n=c2:=by rw [<- l1]; simp
  simp [this]
 | x::xs,cs,i+1,y,ys,⟨c1,c2,e,h1,h2⟩,hi,hy=>by
  have l1:=hn _ _ h1;subst e;have ih:=sI hn xs c2 i y ys h2 (by simpa using hi) hy;refine ⟨c1,_,?_,h1,ih⟩
  have e1:(c1++c2).take ((i+1) * n)=c1++c2.take (i * n):=by
   rw [RD,SL,QG (by omega)];congr 2; omega
  have e2:(c1++c2).drop ((i+1+1) * n)=c2.drop ((i+1) * n):=by
   rw [RD,Sh,QX (by omega),Q0];congr 1; omega
  rw [e1,e2];simp [List.append_assoc]
theorem Ey (ds:List Nat) (S:St) (ctx:List (Nat×Bool)) (x:Operand):(S.freeze ds).look ctx x=S.look ctx x:=by
 unfold St.look; rw [G6]
theorem Hn {A:Ty} {x:A.den} {c:AV} {cs:List Value} (hS:SatB M p0 w0 S a.tmps w p β) (h:AV.toTy false S.lh A c=some x) (hc:c.cells p β cs):A.holds p x cs:=by
 have:=bc hS (rows:=false) A c x cs h hc;simpa using this
theorem gR {o:Oper} {w':World} {S':St} (hd:o.dst=none) {s:Sem Unit} (ho:execOp a.eval o=(do s; pure .skip)) (hs:s.run P w=.ok () w') (h:Sat M p0 w0 S' a.tmps w'):EOK M p0 w0 S' P o a w:=by
 intro K Q hK;unfold Oper.wp;rw [ho];simp only [QL,hs,QC,QU,Oper.upon_skip,hd,Act.put];exact hK a w' h rfl
theorem x7 (hS:SatB M p0 w0 S a.tmps w p β) {o:Oper} {t:TypeId} {ad x:Operand} (hd:o.dst=none) (ho:o.op=.store t ad x) {ps:List Prop} {S':St}
  (h:kW P S t (S.look [] ad) (S.look [] x)=some (ps,S')) (hps:∀ q∈ps,q):EOK M p0 w0 S' P o a w:=by
 have hx:=aS hS (aL _) x;have had:=aS hS (aL _) ad;unfold kW at h;split at h <;> try cases h
 rename_i n hn;split at h
 ·cases h
 rename_i hz;have hn0:n≠0:=by intro e; rw [e] at hz; simp at hz
 split at h
 ·rename_i d off hav;rw [hav] at had;split at h <;> try cases h
  rename_i c hc;split at h <;> simp only [pS,zn,reduceCtorEq] at h <;> obtain ⟨rfl,rfl⟩:=h;rename_i hb;simp only [CF] at hb;obtain ⟨⟨⟨⟨_,h1⟩,h2⟩,h3⟩,h4⟩:=hb;have h1:=CC h1;have h2:=QE h2;obtain ⟨b,e1,e2⟩:=had;obtain ⟨b',cs,ty,e3,e4,e5⟩:=hS.lhs d _ hc;rw [e1] at e3;injection e3 with e3
  injection e3 with e3
  injection e3 with e3
  subst e3;have hv:=lA hS hx h3;have hlv:=AV.len_cells _ _ hv;have hlc:=AV.len_cells _ _ e5;have hsz:(a.eval x).cells.size=n:=by simp at hlv; omega
  have hone:=lw hS _ _ hv h4;have hrun:=mX (P:=P) (w:=w) (t:=t) hn e4 hsz hone (o:=off) (by simp at hlc; omega);have hput:=AV.cells_put off _ n c _ _ e5 hv (by simpa using hsz) (by omega) (by simp at hlc |-; omega);obtain ⟨f1,f2,f3,f4,f5,f6⟩:=cf w b (cs.toList.take off++(a.eval x).cells.toList++cs.toList.drop (off+n)).toArray e4;refine gR hd (s:=Instr.storeAt t (a.eval ad) (a.eval x)) (by simp only [execOp,ho]) (by rw [e2]; exact hrun) ⟨p,β,hS.turn hc rfl (by rw [e1]; rfl) f2 f3 f4 f5 f6 ?_⟩;exact ⟨b,_,ty,e1,f1,by simpa using hput⟩
 ·rename_i d T i off hav;rw [hav] at had;obtain ⟨p1,hle,hS1⟩:=bZ (S.look [] x).owns S p hS;split at h;rotate_left
  ·rename_i c hc;split at h <;> try cases h
   rename_i N c' hput;split at h <;> simp only [pS,zn,reduceCtorEq] at h <;> obtain ⟨rfl,rfl⟩:=h;rename_i hb;simp only [CF] at hb;have hn1:=CC hb.1.2;have ho:=CC hb.2;have hi:i<N:=hps _ (by simp);subst hn1 ho
   obtain ⟨k,m,xs,rfl,hv,hxs,rfl,rfl⟩:∃ (k:IntKind) (m:Int) (xs:List Int),T=.int k/\S.look [] x=.int k m/\c.ints k=some xs/\N=xs.length/\c'=c.setI i m 0:=by
    unfold AV.putI at hput;split at hput <;> try cases hput
    rename_i k k' m hv;split at hput <;> try cases hput
    rename_i hk;subst hk;obtain ⟨xs,hxs,e⟩:=Dm.1 hput;simp only [zn] at e;exact ⟨_,m,xs,rfl,hv,hxs,e.1.symm,e.2.symm⟩
   rw [hv] at hx;obtain ⟨ex,hm⟩:=ce hx;obtain ⟨b,e1,e2⟩:=had;obtain ⟨b',cs,ty,e3,e4,e5⟩:=hS1.lhs d _ hc;rw [e3] at e1;injection e1 with e1
   subst e1;obtain ⟨e6,_⟩:=pm hxs e5
   have hlen:cs.size=xs.length:=by
    have:=congrArg List.length e6;simpa using this
   have hsz:(a.eval x).cells.size=1:=by rw [ex]; rfl
   have hone:=lw hS _ _ (lA hS (hv ▸ aS hS (aL _) x) (a:=.int k m) rfl) rfl;have hin:i+1<=cs.size:=by rw [hlen]; exact hi
   have hrun:=mX (P:=P) (w:=w) (t:=t) hn e4 hsz hone (o:=i) (by first | exact hin | simpa using hin);have hset:=Gm (i:=i) hm hxs e5 (j:=0) (Re _) (by omega);obtain ⟨f1,f2,f3,f4,f5,f6⟩:=cf w b' (cs.toList.take i++(a.eval x).cells.toList++cs.toList.drop (i+1)).toArray e4;refine gR hd (s:=Instr.storeAt t (a.eval ad) (a.eval x)) (by simp only [execOp,ho]) (by rw [e2]; simpa [Ty.size] using hrun) ⟨p1,β,hS1.turn hc rfl (by rw [e3]; rfl) f2 f3 f4 f5 f6 ?_⟩;refine ⟨b',_,ty,e3,f1,?_⟩;rw [ex];simpa [Value.cells] using hset
  ·cases h
  rename_i e' T' xs hZ;split at h <;> try cases h
  rename_i hT;subst hT;split at h <;> try cases h
  rename_i hb;split at h <;> simp only [pS,zn,reduceCtorEq] at h <;> obtain ⟨rfl,rfl⟩:=h;rename_i y hy;simp only [CF] at hb;obtain ⟨⟨⟨⟨_,h1⟩,h2⟩,h3⟩,h4⟩:=hb;have h1:=CC h1;have h2:=QE h2;have hi:i<xs.length:=hps _ (by simp);obtain ⟨b,e1,e2⟩:=had;have hv:=lA hS hx h3;have hlv:=AV.len_cells _ _ hv;have hsz:(a.eval x).cells.size=n:=by simp at hlv; omega
  have hone:=lw hS _ _ hv h4;obtain ⟨l,g1,g2,g3⟩:=hS1.lhs d _ hZ;rcases g1.2 with ⟨_,h0⟩ | ⟨g,cap,cur,q1,_,q2,q3,q3',q4,q5⟩
  ·omega
  rw [q1] at e1;injection e1 with e1
  have e1:=e1.symm;subst e1
  have hle1:(i+1) * T'.size<=cur.size:=by
   have:(i+1) * T'.size<=cap * T'.size:=Q2 _ (by omega);omega
  rw [RD] at hle1;have hrun:=mX (P:=P) (w:=w) (t:=t) hn q2 hsz hone (o:=i * T'.size+off) (by omega);obtain ⟨f1,f2,f3,f4,f5,f6⟩:=cf w b (cur.toList.take (i * T'.size+off)++(a.eval x).cells.toList++cur.toList.drop (i * T'.size+off+n)).toArray q2;have hll:l.length=xs.length * T'.size:=g1.1;have hT:=Ty.holds_length (p:=p1) T';have hxi:xs[i]?=some (xs.getD i T'.dflt):=by simp [List.getD,hi]
  have hel:=kM (fun x cs h=>Ty.holds_length T' x cs h) xs l g2 i _ hxi;have hmul:(i+1) * T'.size<=xs.length * T'.size:=Q2 _ hi;rw [RD] at hmul;have hell:((l.drop (i * T'.size)).take T'.size).length=T'.size:=by simp; omega
  have hput:=AV.cells_put off _ n _ _ _ (Ty.av_cells (β:=β) T' _ _ hel) (AV.cells_mono hle _ _ hv) (by simpa using hsz) (by omega) (by omega);have hy':=Hn hS1 hy hput;have hset:=sI (fun x cs h=>Ty.holds_length T' x cs h) xs l i y _ g2 hi hy';refine gR hd (s:=Instr.storeAt t (a.eval ad) (a.eval x)) (by simp only [execOp,ho]) (by rw [e2]; exact hrun) ⟨p1,β,hS1.turn hZ rfl (by rw [q1]; rfl) f2 f3 f4 f5 f6 ?_⟩;refine ⟨_,⟨?_,.inr ⟨b,cap,_,by rw [q1]; simp,Re _,f1,by simpa using q3,q3',?_,?_⟩⟩,hset,by simpa using g3⟩
  ·simp only [KK,QD,QH,R4];simp only [Rw,hsz];rw [RD];omega
  ·simp only [RE,KK,QD,QH,Rw,hsz];omega
  ·
   simp only [R4];rw [RD];exact FX cur.toList l _ q5 (by simp; rw [q4]; exact Q2 _ q3) (by omega) h2 (by simpa using hsz)
 ·cases h
end
section
variable {M:Nat->Prop} {p0:PH} {w0:World} {S:St} {w:World} {p:PH} {β:Nat->Value} {P:Program} {a:Act}
theorem HV (d:Nat):∀ (Rs:List RT) (k:Nat) (x:eD Rs) (S:St),(lH d k Rs x S).n=S.n:=by
 intro Rs
 induction Rs with
 | nil=>intro k x S; rfl
 | cons R Rs ih =>
  intro k x S;have put_n:∀ (R:RT) (x:R.den) (nm:Nat) (S:St),(R.put x nm S).n=S.n:=by intro R x nm S; cases R <;> rfl
  cases Rs with
  | nil=>exact put_n R x _ S
  | cons U Rs=>exact (ih (k+1) x.2 _).trans (put_n R x.1 _ S)
theorem BS (hS:SatB M p0 w0 S a.tmps w p β) {ss:Specs} {f:FuncId} (args:List Operand):∃ p1,PH.le p p1/\SatB M p0 w0 (fW ss S f args) a.tmps w p1 β/\(fW ss S f args).n=S.n:=by
 unfold fW;split
 ·split
  ·obtain ⟨p1,h1,h2⟩:=bZ ((args.map (S.look [])).flatMap AV.owns) S p hS;exact ⟨p1,h1,h2,(cQ _ _).2.1⟩
  ·exact ⟨p,PH.le.refl p,hS,rfl⟩
 ·exact ⟨p,PH.le.refl p,hS,rfl⟩
theorem cN {t e:TypeId} (h:eN P t=some e):P.underlying t=some (.slice e):=by
 unfold eN at h;split at h
 ·rename_i e' hu;injection h with h
  subst h;exact hu
 ·cases h
theorem dE {e:TypeId} {T:Ty} (h:ft P e T=true):∃ i z,P.info? e=some i/\i.size=T.size/\i.bytes<=T.bytes/\i.zero=some z/\z.cells.size=T.size:=by
 unfold ft at h;split at h <;> try cases h
 rename_i i hi;simp only [CF] at h;obtain ⟨⟨h1,h2⟩,h3⟩:=h;split at h3 <;> try cases h3
 rename_i z hz;exact ⟨i,z,hi,CC h1,QE h2,hz,by have:=CC h3; simpa using this⟩
theorem ji (hS:SatB M p0 w0 S a.tmps w p β) {x:AV} {v:Value} {T:Ty} {ys:List T.den} (h:x.asRow S.lh=some ⟨T,ys⟩) (hx:x.val p β a.tmps v) :
  ∃ A c l,v=.slice A ys.length c/\aN (T.holds p) ys l/\ys.length * T.bytes<=aK/\(ys≠[]->∃ b o,A=some ⟨b,o,none⟩/\∀ (j:Nat) (u:Value),l[j]?=some u->w.cell? ⟨b,o+j,none⟩=some u):=by
 have arr:∀ {T:Ty} {ys:List T.den} {v:Value},(Ty.arr T).holds p ys [v] ->
   ∃ A c l,v=.slice A ys.length c/\aN (T.holds p) ys l/\ys.length * T.bytes<=aK/\(ys≠[]->∃ b o,A=some ⟨b,o,none⟩/\∀ (j:Nat) (u:Value),l[j]?=some u->w.cell? ⟨b,o+j,none⟩=some u):=by
  intro T ys v hv;obtain ⟨A,c,l,e,h1,h2,h3,h4⟩:=hv;injection e with e _
  refine ⟨A,c,l,e,h3,h2,fun hne=>?_⟩;obtain ⟨b,o,hA,hc⟩:=h4 hne;exact ⟨b,o,hA,fun j u hu=>oV hS.agr (hc j u hu)⟩
 cases x <;> simp only [AV.asRow,reduceCtorEq] at h
 ·rename_i T' xs;injection h with h
  cases h;exact arr hx
 ·rename_i d;have hx':v=β d:=hx;subst hx';split at h <;> simp only [pS,reduceCtorEq] at h <;> cases h
  ·rename_i hd;obtain ⟨l,h1,h2,h3⟩:=hS.lhs d _ hd;rcases h1.2 with ⟨e0,h0⟩ | ⟨g,cap,cur,e1,_,e2,e3,_,e4,e5⟩
   ·exact ⟨none,0,l,by rw [e0,h0],h2,h3,fun hne=>absurd (QF h0) hne⟩
   ·refine ⟨_,cap,l,e1,h2,h3,fun _=>⟨g,0,rfl,fun j u hu=>?_⟩⟩;rw [eH e2];rw [<- e5,List.getElem?_take] at hu;split at hu
    ·simpa using hu
    ·cases hu
  ·rename_i hd;exact arr (hS.lhs d _ hd)
theorem BW (hS:SatB M p0 w0 S a.tmps w p β) {x:AV} {v:Value} {qs:List Prop} {T:Ty} {ys:List T.den} (h:x.asRowP S.lh=some (qs,⟨T,ys⟩)) (hq:∀ q∈qs,q) (hx:x.val p β a.tmps v) :
  ∃ A c l,v=.slice A ys.length c/\aN (T.holds p) ys l/\ys.length * T.bytes<=aK/\(ys≠[]->∃ b o,A=some ⟨b,o,none⟩/\∀ (j:Nat) (u:Value),l[j]?=some u->w.cell? ⟨b,o+j,none⟩=some u):=by
 unfold AV.asRowP at h;split at h
 ·rename_i d T1 i n;split at h
  ·rename_i e T' xs hd;split at h
   ·rename_i hT;subst hT;simp only [pS,zn] at h;obtain ⟨rfl,h⟩:=h;cases h;have hin:i+n<=xs.length:=hq _ (by simp);have hlen:((xs.drop i).take n).length=n:=by simp; omega
    rcases p9 hS hd with ⟨e1,hb⟩ | ⟨g,cap,cur,l,hb,hg,hc,hr,hl,hbig⟩
    ·have hn:n=0:=by rw [e1] at hin; simp at hin; omega
     rcases hx with ⟨b,m,cc,c',q1,q2⟩ | ⟨_,B,c',q2⟩
     ·rw [hb] at q1;cases q1
     ·refine ⟨B,c',[],by rw [hlen,hn]; exact q2,?_,by rw [hlen,hn]; simp,fun hne=>absurd (QF (hlen.trans hn)) hne⟩;rw [QF (hlen.trans hn)];rfl
    ·rcases hx with ⟨b,m,cc,c',q1,q2⟩ | ⟨hn,B,c',q2⟩
     ·rw [hb] at q1;injection q1 with q1 _ _
      injection q1 with q1
      injection q1 with q1
      subst q1;have r1:=fc (fun x cs h=>Ty.holds_length (p:=p) _ x cs h) i xs l hr;have r2:=dz (fun x cs h=>Ty.holds_length (p:=p) _ x cs h) n _ _ r1;refine ⟨_,c',_,by rw [hlen]; exact q2,r2,?_,fun _=>⟨g,_,rfl,fun j u hu=>?_⟩⟩
      ·rw [hlen];exact Ra (Q2 _ (by omega)) hbig
      ·rw [eH hg];rw [List.getElem?_take] at hu;split at hu
       ·rw [List.getElem?_drop] at hu;exact hl _ _ hu
       ·cases hu
     ·refine ⟨B,c',[],by rw [hlen,hn]; exact q2,?_,by rw [hlen,hn]; simp,fun hne=>absurd (QF (hlen.trans hn)) hne⟩;rw [QF (hlen.trans hn)];rfl
   ·cases h
  ·cases h
 ·split at h
  ·rename_i r hr;simp only [pS,zn] at h;obtain ⟨_,rfl⟩:=h;exact ji hS hr hx
  ·cases h
theorem wc {t ty e:TypeId} {i:TypeInfo} (ht:P.underlying t=some (.slice e)) (hi:P.info? e=some i) {v:Value} {n:Nat} {l:List Value} {size:Nat} (hown:w.ownsRow 0 e size v n l) (c:Nat) :
  (Builtin.append_ #[t,t] ty #[v,.slice none 0 c]).run P w=.ok v w:=by
 rcases hown.2 with ⟨rfl,rfl⟩ | ⟨g,cap,cur,rfl,_,_,hnc,_⟩
 ·simp [Builtin.append_,QM ht,sizeOf,typeInfo,hi,Builtin.lenOf,Builtin.firstCells]
 ·simp [Builtin.append_,QM ht,sizeOf,typeInfo,hi,Builtin.lenOf,Builtin.firstCells,hnc,storeCells]
theorem mE {t ty e:TypeId} {T:Ty} (ht:P.underlying t=some (.slice e)) (hf:ft P e T=true) {v:Value} {n:Nat} {l:List Value} (hown:w.ownsRow 0 e T.size v n l)
  {A:Option Addr} {c:Nat} {ys:List T.den} {l2:List Value} (hl2:aN (T.holds p) ys l2) (hA:ys≠[]->∃ b o,A=some ⟨b,o,none⟩/\∀ (j:Nat) (u:Value),l2[j]?=some u->w.cell? ⟨b,o+j,none⟩=some u)
  (hbig:(n+ys.length) * T.bytes<=aK) :
  ∃ v' w',(Builtin.append_ #[t,t] ty #[v,.slice A ys.length c]).run P w=.ok v' w'/\w'.ownsRow 0 e T.size v' (n+ys.length) (l++l2)/\w.grownBy w' v.ownBlock /\
   (v'.ownBlock=v.ownBlock\/v'.ownBlock=some w.heap.size):=by
 obtain ⟨i,z,hi,hsz,hby,hz,hzs⟩:=dE hf;have hlen:=dc (fun x cs h=>Ty.holds_length (p:=p) T x cs h) ys l2 hl2;have hbig':(n+ys.length) * i.bytes<=140737488355328:=Ra (Rk _ hby) hbig
 have h63:n+ys.length<=maxLen:=by
  have:=fx T;have h2:(n+ys.length) * 8<=(n+ys.length) * T.bytes:=Rk _ this;simp only [aK,maxLen] at *;omega
 have some_case:∀ (ad:Addr),A=some ad->(∀ (j:Nat) (u:Value),l2[j]?=some u->w.cell? (ad.add j)=some u) ->
   ∃ v' w',(Builtin.append_ #[t,t] ty #[v,.slice A ys.length c]).run P w=.ok v' w'/\w'.ownsRow 0 e T.size v' (n+ys.length) (l++l2)/\w.grownBy w' v.ownBlock /\
   (v'.ownBlock=v.ownBlock\/v'.ownBlock=some w.heap.size):=by
  intro ad hA hc;subst hA
  obtain ⟨v',w',h1,h2,h3,_,h5⟩:=run_append_own_at (P:=P) w 0 t ty e i z T.size i.bytes ht hi hz hsz rfl hzs (Ty.size_pos T) v n l hown ad ys.length c l2 hlen hc
   (fM (fun x cs h=>dD T x cs h) ys l2 hl2) h63 hbig' (Re _)
  exact ⟨v',w',h1,h2,h3,h5⟩
 by_cases hy:ys=[]
 ·subst hy;simp only [aN] at hl2;subst hl2;cases A with
  | none=>exact ⟨v,w,wc ht hi hown c,by simpa using hown,World.grownBy.refl w _,.inl rfl⟩
  | some ad=>exact some_case ad rfl (fun j u hu=>by simp at hu)
 ·obtain ⟨b,o,rfl,hc⟩:=hA hy;exact some_case _ rfl (fun j u hu=>by rw [fX]; exact hc j u hu)
theorem cP {v:Value} {e:TypeId} {size n:Nat} {l:List Value} (h:w.ownsRow 0 e size v n l):b8 v=v.ownBlock:=by
 rcases h.2 with ⟨rfl,_⟩ | ⟨g,cap,cur,rfl,_⟩ <;> rfl
theorem u9 {S0:St} (hS0:SatB M p0 w0 S0 a.tmps w p β) {v:Value} {w':World} (hg:w.grownBy w' v.ownBlock)
  (hM:∀ b,v.ownBlock=some b->(M b\/w0.heap.size<=b)/\p b=none/\b<w.heap.size)
  (hfree:∀ d' e' b,S0.lh d'=some e'->e'.live=true->v.ownBlock=some b->b8 (β d')≠some b):SatB M p0 w0 S0 a.tmps w' p β:=by
 refine ⟨hS0.keep.trans_grow hg.os hg.tape hg.output hg.size (fun b hb' hm hb0=>hg.block b hb' (fun e=>?_)),fun b cs hbc=>?_,hS0.old,hS0.size,fun d' e' hd'=>?_,hS0.owns,hS0.inj,hS0.env⟩
 ·rcases (hM b e.symm).1 with h | h
  ·exact hm h
  ·omega
 ·rw [hg.block b (hS0.agr.lt hbc) (fun e=>by have:=(hM b e.symm).2.1; rw [this] at hbc; cases hbc)];exact hS0.agr b cs hbc
 ·exact LE.sat_world d' e' (hS0.lhs d' e' hd') (fun b hl' hb'=>hg.block b (LE.sat_lt d' e' hl' (hS0.lhs d' e' hd') hb') (fun e=>hfree d' e' b hd' hl' e.symm hb'))
theorem yB {S0:St} (hS0:SatB M p0 w0 S0 a.tmps w p β) {v v':Value} {w':World} {e:TypeId} {T:Ty} {zs:List T.den} {l:List Value} {d:Nat} (hd:d<S0.n)
  (hown:w'.ownsRow 0 e T.size v' zs.length l) (hl:aN (T.holds p) zs l) (hbig:zs.length * T.bytes<=aK) (hg:w.grownBy w' v.ownBlock)
  (hb:∀ b,v'.ownBlock=some b->v.ownBlock=some b\/w.heap.size<=b)
  (hM:∀ b,v.ownBlock=some b->(M b\/w0.heap.size<=b)/\p b=none/\b<w.heap.size)
  (hfree:∀ d' e' b,S0.lh d'=some e'->e'.live=true->v.ownBlock=some b->b8 (β d')≠some b) :
  Sat M p0 w0 ((S0.fresh d (.row e T zs)).set d (.own d)) (a.tmps.setIfInBounds d v') w':=by
 have hgrow:=u9 hS0 hg hM hfree;have hblk:=cP hown
 have hfresh:=hgrow.fresh (d:=d) (e:=.row e T zs) (v:=v') ⟨l,by simpa using hown,hl,hbig⟩
  (fun b _ hb'=>by
   rw [hblk] at hb';rcases hb b hb' with hb' | hb'
   ·exact ⟨(hM b hb').1,(hM b hb').2.1⟩
   ·refine ⟨.inr (Ra hS0.keep.size hb'),?_⟩;cases hp:p b with
    | none=>rfl
    | some c=>have:=hS0.agr.lt hp; omega)
  (fun d' e' b _ _ hd' hl' hb' hb''=>by
   rw [hblk] at hb';rcases hb b hb' with hb' | hb'
   ·exact hfree d' e' b hd' hl' hb' hb''
   ·have:=LE.sat_lt d' e' hl' (hS0.lhs d' e' hd') hb'';omega)
 exact ⟨p,_,hfresh.set hd (show v'=_ by simp)⟩
theorem rt {S0:St} (hS0:SatB M p0 w0 S0 a.tmps w p β) {v v':Value} {w':World} {e:TypeId} {T:Ty} {zs:List T.den} {l:List Value} {d:Nat} (hd:d<S0.n)
  (hown:w'.ownsRow 0 e T.size v' zs.length l) (hl:aN (T.holds p) zs l) (hbig:zs.length * T.bytes<=aK) (hg:w.grownBy w' v.ownBlock) (hb:v'.ownBlock=v.ownBlock\/v'.ownBlock=some w.heap.size)
  (hM:∀ b,v.ownBlock=some b->(M b\/w0.heap.size<=b)/\p b=none/\b<w.heap.size)
  (hfree:∀ d' e' b,S0.lh d'=some e'->e'.live=true->v.ownBlock=some b->b8 (β d')≠some b) :
  Sat M p0 w0 ((S0.fresh d (.row e T zs)).set d (.own d)) (a.tmps.setIfInBounds d v') w' :=
 yB hS0 hd hown hl hbig hg (fun b h=>by
  rcases hb with e1 | e1
  ·exact .inl (e1 ▸ h)
  ·rw [e1] at h;injection h with h
   exact .inr (Nat.le_of_eq h)) hM hfree
theorem yC (hS:SatB M p0 w0 S a.tmps w p β) {d:Nat} {e:TypeId} {T:Ty} {xs:List T.den} (hd:S.lh d=some (.row e T xs)) :
  ∀ b,(β d).ownBlock=some b->(M b\/w0.heap.size<=b)/\p b=none/\b<w.heap.size:=by
 intro b hb;obtain ⟨l,h1,h2,h3⟩:=hS.lhs d _ hd;rw [<- cP h1] at hb;have:=hS.owns d _ b hd rfl hb;exact ⟨this.1,this.2,LE.sat_lt d _ rfl (hS.lhs d _ hd) hb⟩
theorem St.entry_entry (S:St) (n:Nat) (e1 e2:LE):(S.entry n e1).entry n e2=S.entry n e2:=by
 unfold St.entry;simp only [St.mk.injEq,Sb,SI];funext x;cases Nat.beq x n <;> rfl
theorem o8 {lh:Nat->Option LE} {e:TypeId} {T:Ty} {a:AV} {n:Nat} {xs:List T.den} (h:a.rowOf lh e T=some (n,xs)):a=.own n/\lh n=some (.row e T xs):=by
 cases a <;> simp only [AV.rowOf,reduceCtorEq] at h;rename_i d;split at h <;> try cases h
 rename_i e' T' ys hd;split at h <;> try cases h
 rename_i hT;subst hT;split at h <;> simp only [pS,zn,reduceCtorEq] at h;rename_i he;have he:=CC he;subst he;obtain ⟨rfl,rfl⟩:=h;exact ⟨rfl,hd⟩
theorem xE (hS:SatB M p0 w0 S a.tmps w p β) {r:RowFn} {n:Nat} {e0:LE} (hn:S.lh n=some e0) (he0:e0.live=true) {rest:List AV} {ys:List r.T.den} (h:Ar S.lh r n rest=some ys)
  {vs:List Value} (hl:vs.length=rest.length) (hv:∀ (i:Nat) a' v,rest[i]?=some a'->vs[i]?=some v->a'.val p β a.tmps v) :
  ∃ v2 l2,vs=r.mid vs++(if r.tail then [v2] else [])/\w.ownsRow 0 r.e r.T.size v2 ys.length l2/\aN (r.T.holds p) ys l2/\∀ b,b8 (β n)=some b->b8 v2≠some b:=by
 unfold Ar at h;split at h
 ·rename_i ht;injection h with h
  subst h;exact ⟨.slice none 0 0,[],by simp [RowFn.mid,ht],SG w 0 r.e r.T.size,rfl,fun b _ h=>by cases h⟩
 ·rename_i b ht hb;split at h <;> try cases h
  rename_i m ys' hr;obtain ⟨rfl,hm⟩:=o8 hr;split at h <;> simp only [pS,reduceCtorEq] at h;rename_i hmn;subst h;obtain ⟨l2,k1,k2,k3⟩:=hS.lhs m _ hm
  have hne:vs≠[]:=by
   intro e;subst e;have:rest=[]:=QF (by simpa using hl.symm);rw [this] at hb;cases hb
  have hlast:vs.getLast hne=β m:=by
   have h1:rest[rest.length - 1]?=some (.own m):=by rw [<- List.getLast?_eq_getElem?]; exact hb
   have h2:vs[rest.length - 1]?=some (vs.getLast hne):=by rw [<- hl,<- List.getLast?_eq_getElem?,List.getLast?_eq_some_getLast hne]
   exact hv _ _ _ h1 h2
  refine ⟨β m,l2,?_,k1,k2,fun b hb1 hb2=>?_⟩
  ·simp only [RowFn.mid,ht,QS,if_true];rw [<- hlast];exact (SE hne).symm
  ·have:=hS.inj n m e0 _ b hn he0 hm rfl hb1 hb2;rw [this] at hmn;simp at hmn
 ·cases h
theorem Od {r:RowFn} {rest:List AV} {vs:List Value} (hl:vs.length=rest.length) (hv:∀ (i:Nat) a' v,rest[i]?=some a'->vs[i]?=some v->a'.val p β a.tmps v) :
  (r.mid vs).length=(r.mid rest).length/\∀ (i:Nat) a' v,(r.mid rest)[i]?=some a'->(r.mid vs)[i]?=some v->a'.val p β a.tmps v:=by
 unfold RowFn.mid;cases r.tail
 ·exact ⟨hl,hv⟩
 ·refine ⟨by simp [hl],fun i a' v h1 h2=>hv i a' v ?_ ?_⟩
  ·simp only [QS] at h1;rw [List.dropLast_eq_take,List.getElem?_take] at h1;split at h1
   ·exact h1
   ·cases h1
  ·simp only [QS] at h2;rw [List.dropLast_eq_take,List.getElem?_take] at h2;split at h2
   ·exact h2
   ·cases h2
theorem t6 (hS:SatB M p0 w0 S a.tmps w p β) {ss:Specs} (hss:ss.okA P M w0) {o:Oper} {d:Nat} {f:FuncId} {x:Operand} {rest:List Operand} {args:Array Operand} {ts:Array TypeId} (hd:o.dst=some d)
  (ho:o.op=.call { callee:=.value (.func f),args,argTypes:=ts }) (ha:args.toList=x::rest) {r:RowFn} (hr:ss.row f=some (.row r)) (hcal:cX P f=true) {ps:List Prop} {S':St}
  (h:jQ S d r (S.look [] x) (rest.map (S.look []))=some (ps,S')) (hps:∀ q∈ps,q):EOK M p0 w0 S' P o a w:=by
 have hx:=aS hS (aL _) x;have hrest:=iQ hS (aL _) rest;obtain ⟨p1,hle,hS1⟩:=bZ ((r.mid (rest.map (S.look []))).flatMap AV.owns) S p hS;have hn1:(S.freeze ((r.mid (rest.map (S.look []))).flatMap AV.owns)).n=S.n:=(cQ _ _).2.1;unfold jQ at h;generalize S.freeze ((r.mid (rest.map (S.look []))).flatMap AV.owns)=S1 at *;split at h <;> try cases h
 rename_i n xs hxr;obtain ⟨hxn,hn⟩:=o8 hxr;rw [hxn] at hx;have hxv:a.eval x=β n:=hx;split at h <;> try cases h
 rename_i ys y hty hy;split at h <;> simp only [pS,zn,reduceCtorEq] at h;rename_i hb;obtain ⟨rfl,rfl⟩:=h;simp only [CF] at hb;have hdn:=dh hb.2;obtain ⟨l,g1,g2,g3⟩:=hS1.lhs n _ hn;have hrest1:∀ (i:Nat) a' v,(rest.map (S.look []))[i]?=some a'->(rest.map a.eval)[i]?=some v->a'.val p1 β a.tmps v:=fun i a' v h1 h2=>AV.val_mono hle _ _ (hrest i a' v h1 h2)
 obtain ⟨v2,l2,q1,q2,q3,q4⟩:=xE hS1 hn rfl hty (vs:=rest.map a.eval) (by simp) hrest1;obtain ⟨m1,m2⟩:=Od (r:=r) (vs:=rest.map a.eval) (by simp) hrest1;have hargs:=sB hS1 r.Ts _ y (r.mid (rest.map a.eval)) hy m1 m2;simp only [Qz,QW] at hargs;have hrb:=yC hS1 hn
 have htab:∀ b,(β n).ownBlock=some b->∀ k∈As,k.1≠b:=by
  intro b hb k hk e;rcases (hrb b hb).1 with hM | hM
  ·exact hss.2.2 k hk (e ▸ hM)
  ·have h1:=Bt (hss.2.1 k hk);omega
 have hcalls:=(show r.ok P f from hss.1.2.2 f _ hr) p1 w (β n) xs l v2 ys l2 (r.mid (rest.map a.eval)) y (hss.2.1.keep hss.2.2 hS1.keep) htab hS1.agr g1 g2 g3 (fun b hb'=>(hrb b hb').2.1) q2 q3
  (fun b hb'=>by rw [<- cP q2]; exact q4 b (by rw [cP g1]; exact hb')) hargs (hps _ (by simp))
 intro K Q hK;unfold Oper.wp;rw [m9 hcal ho];simp only [Sm]
 have ea:args.map a.eval=(β n::(r.mid (rest.map a.eval)++if r.tail then [v2] else [])).toArray:=by
  rw [<- q1];apply QZ.1;rw [SY,ha];simp [hxv]
 rw [ea];refine hcalls.mono ?_;rintro ex w' ⟨v',l',rfl,hsame,hg,hown,hl',hbig,hnew⟩;have hS0:SatB M p0 w0 (S1.entry n .dead) a.tmps w p1 β:=hS1.entry trivial (fun b h=>by cases h) (fun d' e' b _ h=>by cases h)
 have hfree:∀ d' e' b,(S1.entry n .dead).lh d'=some e'->e'.live=true->(β n).ownBlock=some b->b8 (β d')≠some b:=by
  intro d' e'' b hd' hl2 hb' hb''
  have hne:d'≠n:=by
   intro e3;subst e3;simp only [St.entry,eB,QS,pS] at hd';subst hd';cases hl2
  simp only [St.entry,cj hne,QB] at hd';rw [<- cP g1] at hb';exact hne (hS1.inj d' n e'' _ b hd' hl2 hn rfl hb'' hb')
 cases hro:r.out
 ·rw [hro] at hK;simp only [QB] at hK;simp only [Qz,QW];have hv':=hsame hro;subst hv';have hgrow:=u9 hS0 hg hrb hfree
  have hent:SatB M p0 w0 (S1.entry n (.row r.e r.T (r.F xs ys y))) a.tmps w' p1 β:=by
   rw [<- St.entry_entry S1 n .dead];refine hgrow.entry ⟨l',hown,hl',hbig⟩ (fun b _ hb'=>?_) (fun d' e' b hne _ hd' hl2 hb'=>?_)
   ·rw [cP hown] at hb';exact ⟨(hrb b hb').1,(hrb b hb').2.1⟩
   ·rw [cP hown] at hb';exact hfree d' e' b hd' hl2 hb'
  show K (a.put o.dst _) w';rw [hd];exact hK _ w' ⟨p1,β,hent.set (d:=d) (x:=.tuple #[]) (a:=.tnil) (by show d<S1.n; rw [hn1]; exact hdn) rfl⟩ rfl
 ·rw [hro] at hK;simp only [QS] at hK;simp only [if_true];show K (a.put o.dst _) w';rw [hd];exact hK _ w' (yB hS0 (v:=β n) (by show d<S1.n; rw [hn1]; exact hdn) hown hl' hbig hg hnew hrb hfree) rfl
theorem ud (hS:SatB M p0 w0 S a.tmps w p β) {ss:Specs} (hss:ss.okA P M w0) {o:Oper} {d:Nat} {f:FuncId} {x:Operand} {rest:List Operand} {args:Array Operand} {ts:Array TypeId} (hd:o.dst=some d)
  (ho:o.op=.call { callee:=.value (.func f),args,argTypes:=ts }) (ha:args.toList=x::rest) {r:BoxFn} (hr:ss.row f=some (.box r)) (hcal:cX P f=true) {ps:List Prop} {S':St}
  (h:jR S d r (S.look [] x) (rest.map (S.look []))=some (ps,S')) (hps:∀ q∈ps,q):EOK M p0 w0 S' P o a w:=by
 have hx:=aS hS (aL _) x;have hrest:=iQ hS (aL _) rest;unfold jR at h;split at h <;> try cases h
 rename_i n hxn;rw [hxn] at hx;obtain ⟨p1,hle,hS1⟩:=bZ (dn S n++(rest.map (S.look [])).flatMap AV.owns) S p hS;have hn1:=(cQ (dn S n++(rest.map (S.look [])).flatMap AV.owns) S).2.1;generalize S.freeze (dn S n++(rest.map (S.look [])).flatMap AV.owns)=S1 at *;split at h <;> try cases h
 rename_i c hn;split at h <;> try cases h
 rename_i x0 y hx0 hy;split at h <;> simp only [pS,zn,reduceCtorEq] at h;rename_i hb;obtain ⟨rfl,rfl⟩:=h;simp only [CF] at hb;have hdn:=dh hb.2;obtain ⟨b,cs,t,g1,g2,g3⟩:=hS1.lhs n _ hn
 have hxv:a.eval x=.pointer (some ⟨b,0,none⟩):=by
  obtain ⟨b',e1,e2⟩:=hx;rw [g1] at e1;injection e1 with e1
  injection e1 with e1
  injection e1 with e1
  rw [e2,e1]
 have hblk:b8 (β n)=some b:=by rw [g1]; rfl
 obtain ⟨hM,hpb⟩:=hS1.owns n _ b hn rfl hblk
 have hlt:b<w.heap.size:=by
  apply Rc;intro hge;rw [Array.getElem?_eq_none (Nat.le_of_not_lt hge)] at g2;cases g2
 have htab:∀ k∈As,k.1≠b:=by
  intro k hk e;rcases hM with hM | hM
  ·exact hss.2.2 k hk (e ▸ hM)
  ·have h1:=Bt (hss.2.1 k hk);omega
 have hcells:=bc hS1 (rows:=false) r.T c x0 cs.toList hx0 g3;simp only [Qz,QW] at hcells;have hrest1:∀ (i:Nat) a' v,(rest.map (S.look []))[i]?=some a'->(rest.map a.eval)[i]?=some v->a'.val p1 β a.tmps v:=fun i a' v h1 h2=>AV.val_mono hle _ _ (hrest i a' v h1 h2)
 have hargs:=sB hS1 r.Ts _ y (rest.map a.eval) hy (by simp) hrest1;simp only [Qz,QW] at hargs;have hcalls:=(show r.ok P f from hss.1.2.2 f _ hr) p1 w b cs t x0 (rest.map a.eval) y (hss.2.1.keep hss.2.2 hS1.keep) htab hS1.agr g2 hcells hpb hargs (hps _ (by simp));intro K Q hK;unfold Oper.wp;rw [m9 hcal ho];simp only [Sm]
 have ea:args.map a.eval=(.pointer (some ⟨b,0,none⟩)::rest.map a.eval).toArray:=by
  apply QZ.1;rw [SY,ha];simp [hxv]
 rw [ea];refine hcalls.mono ?_;rintro ex w' ⟨rs,q,cs',t',rfl,hg,hq1,hq2,hown,hcs',hv⟩;have hS0:SatB M p0 w0 (S1.entry n .dead) a.tmps w p1 β:=hS1.entry trivial (fun b h=>by cases h) (fun d' e' b _ h=>by cases h)
 have hfree:∀ d' e' b',(S1.entry n .dead).lh d'=some e'->e'.live=true->some b=some b'->b8 (β d')≠some b':=by
  intro d' e'' b' hd' hl2 hb' hb'';injection hb' with hb'
  subst hb'
  have hne:d'≠n:=by
   intro e3;subst e3;simp only [St.entry,eB,QS,pS] at hd';subst hd';cases hl2
  simp only [St.entry,cj hne,QB] at hd';exact hne (hS1.inj d' n e'' _ b hd' hl2 hn rfl hb'' hblk)
 have hgrow:=u9 hS0 (v:=.slice (some ⟨b,0,none⟩) 0 0) hg (fun b' e=>by injection e with e; subst e; exact ⟨hM,hpb,hlt⟩) (fun d' e' b' h1 h2 h3=>hfree d' e' b' h1 h2 h3);have hplt:∀ b cs,p1 b=some cs->b<w.heap.size:=fun b cs h=>hS1.agr.lt h
 have hqn:∀ b,b<w.heap.size->q b=none:=by
  intro b hb;cases hqb:q b with
  | none=>rfl
  | some c=>have:=hq1 b c hqb; omega
 have hmore:SatB M p0 w0 (S1.entry n .dead) a.tmps w' (p1.union q) β:=hgrow.more (fK p1 q) (js hgrow.agr hq2) (fun b cs hb=>by
  unfold PH.union at hb;split at hb
  ·rename_i c hc;injection hb with hb
   subst hb;exact .inl hc
  ·exact .inr (.inl (Ra hS1.keep.size (hq1 b cs hb)))) (fun d' e' b hd hlv hb=>by
  have h1:=(hS0.owns d' e' b hd hlv hb).2;have h2:=LE.sat_lt d' e' hlv (hS0.lhs d' e' hd) hb;simp [PH.union,h1,hqn b h2])
 have hent:SatB M p0 w0 (S1.entry n (.cells (r.T.av (r.F x0 y).2))) a.tmps w' (p1.union q) β:=by
  rw [<- St.entry_entry S1 n .dead];refine hmore.entry ⟨b,cs',t',g1,hown,Ty.av_cells _ _ _ hcs'⟩ (fun b' _ hb'=>?_) (fun d' e' b' hne _ hd' hl2 hb'=>?_)
  ·rw [hblk] at hb';injection hb' with hb'
   subst hb';exact ⟨hM,by simp [PH.union,hpb,hqn _ hlt]⟩
  ·rw [hblk] at hb';exact hfree d' e' b' hd' hl2 hb'
 have hpq:∀ b,w.heap.size<=b->q b=none->(p1.union q) b=none:=by
  intro b hb hqb
  have:p1 b=none:=by
   cases hpb:p1 b with
   | none=>rfl
   | some c=>have:=hplt b c hpb; omega
  simp [PH.union,this,hqb]
 obtain ⟨β',k1,k2,_⟩:=pH (d:=d) hS1.keep.size (PH.le.refl _) (iU hplt hq1) hpq r.Rs 0 (r.F x0 y).1 rs [] _ β hent hv
  (fun d' e' b' hdd hlv hbl=>.inl (by
   by_cases hne:d'=n
   ·rw [hne,hblk] at hbl;injection hbl with hbl
    rw [<- hbl];exact hlt
   ·have hd':(S1.entry n .dead).lh d'=some e':=by
     simp only [St.entry,cj hne,QB] at hdd |-;exact hdd
    exact LE.sat_lt d' e' hlv (hS0.lhs d' e' hd') hbl))
 show K (a.put o.dst (cA rs)) w';rw [hd];refine hK _ w' ⟨_,β',k1.set (by rw [HV]; show d<S1.n; rw [hn1]; exact hdn) ?_⟩ rfl;exact rM (tm:=a.tmps.setIfInBounds d (cA rs)) d r.Rs _ rs k2
theorem yb (hS:SatB M p0 w0 S a.tmps w p β) {ss:Specs} (hss:ss.okA P M w0) {o:Oper} {d:Nat} {f:FuncId} {args:Array Operand} {ts:Array TypeId} (hd:o.dst=some d)
  (ho:o.op=.call { callee:=.value (.func f),args,argTypes:=ts }) {ps:List Prop} {S':St} (h:mr P ss S d f args.toList=some (ps,S')) (hps:∀ q∈ps,q):EOK M p0 w0 S' P o a w:=by
 unfold mr at h;split at h
 ·rename_i r hr;split at h <;> try cases h
  rename_i x rest ha;split at h <;> try cases h
  rename_i hcal;exact t6 hS hss hd ho ha hr hcal h hps
 ·rename_i r hr;split at h <;> try cases h
  rename_i x rest ha;split at h <;> try cases h
  rename_i hcal;exact ud hS hss hd ho ha hr hcal h hps
 obtain ⟨p1,hle,hS1,hn⟩:=BS (ss:=ss) (f:=f) hS args.toList;generalize fW ss S f args.toList=S1 at *;split at h <;> try cases h
 rename_i q0 Rs x he;split at h <;> simp only [pS,zn,reduceCtorEq] at h <;> obtain ⟨rfl,rfl⟩:=h;rename_i hb;simp only [CF] at hb;intro K Q hK;obtain ⟨hcal,hcalls⟩:=rc hS1 hss he (hps _ (by simp)) (vs:=args.toList.map a.eval) (by simp) (iQ hS1 (aL _) args.toList) d;unfold Oper.wp;rw [m9 hcal ho];simp only [Sm];have e:(args.toList.map a.eval).toArray=args.map a.eval:=by rw [<- SY,S6]
 rw [e] at hcalls;refine hcalls.mono ?_;rintro e w' ⟨rs,p',β',rfl,_,hS',hv,_⟩;show K (a.put o.dst (cA rs)) w';rw [hd];refine hK _ w' ⟨p',β',hS'.set (by rw [HV,hn]; exact dh hb.1) ?_⟩ rfl;have:=rM (tm:=a.tmps.setIfInBounds d (cA rs)) d Rs x rs hv;exact this
theorem wQ (hS:SatB M p0 w0 S a.tmps w p β) {o:Oper} {d:Nat} {t:TypeId} {s x:Operand} (hd:o.dst=some d) (ho:o.op=.call { callee:=.builtin .append,args:=#[s,x],argTypes:=#[t,t] })
  {ps:List Prop} {S':St} (h:ki P S d t (S.look [] s) (S.look [] x)=some (ps,S')) (hps:∀ q∈ps,q):EOK M p0 w0 S' P o a w:=by
 have hs:=aS hS (aL _) s;have hx:=aS hS (aL _) x
 have fin:∀ {v':Value} {w':World},(Builtin.append_ #[t,t] o.type #[a.eval s,a.eval x]).run P w=.ok v' w'->Sat M p0 w0 S' (a.tmps.setIfInBounds d v') w'->EOK M p0 w0 S' P o a w:=by
  intro v' w' hr hsat;obtain ⟨cs,hb⟩:=d6 (a:=a) (w:=w) (P:=P) ho;refine EOK.of_run hd (v:=v') (w':=w') ?_ hsat;rw [hb];simp only [builtin,R8,Q1,RR,QL,hr,QC,QU]
 unfold ki at h;split at h <;> try cases h
 rename_i e he;have hu:=cN he;split at h <;> try cases h
 rename_i T ys hys;obtain ⟨A,c,l2,e2,h2,h3,h4⟩:=ji hS hys hx;split at h <;> try cases h
 rename_i hb;simp only [CF] at hb;have hdn:=dh hb.1.2;split at h
 ·rename_i hsn;rw [hsn] at hs;have hs':a.eval s=.slice none 0 0:=hs;simp only [pS,zn] at h;obtain ⟨rfl,rfl⟩:=h;have hbig:=hps _ (QJ);obtain ⟨v',w',r1,r2,r3,r4⟩:=mE (ty:=o.type) hu hb.1.1 (SG w 0 e T.size) h2 h4 (c:=c) (by simpa using hbig);refine fin (by rw [hs',e2]; exact r1) ?_;exact rt hS hdn (v:=.slice none 0 0) (by simpa using r2) (by simpa using h2) hbig r3 r4 (fun b hb'=>by cases hb') (fun d' e' b _ _ hb'=>by cases hb')
 ·rename_i d1 hsn;rw [hsn] at hs;have hs':a.eval s=β d1:=hs;split at h <;> try cases h
  rename_i e' T' xs hZ;split at h <;> try cases h
  rename_i hT;subst hT;split at h <;> simp only [pS,zn,reduceCtorEq] at h <;> obtain ⟨rfl,rfl⟩:=h;rename_i hb2;simp only [CF] at hb2;have hee:=CC hb2.1.1;subst hee;have hbig:=hps _ (QJ);obtain ⟨l,g1,g2,g3⟩:=hS.lhs d1 _ hZ;obtain ⟨v',w',r1,r2,r3,r4⟩:=mE (ty:=o.type) hu hb.1.1 g1 h2 h4 (c:=c) hbig;refine fin (by rw [hs',e2]; exact r1) ?_;have hS0:SatB M p0 w0 (S.entry d1 .dead) a.tmps w p β:=hS.entry trivial (fun b h=>by cases h) (fun d' e' b _ h=>by cases h);refine rt hS0 hdn (v:=β d1) (by simpa using r2) (cC _ _ _ _ g2 h2) (by simpa using hbig) r3 r4 (yC hS hZ) (fun d' e'' b hd' hl' hb' hb''=>?_)
  have hne:d'≠d1:=by
   intro e3;subst e3;simp only [St.entry,eB,QS,pS] at hd';subst hd';cases hl'
  simp only [St.entry,cj hne,QB] at hd';rw [<- cP g1] at hb';exact hne (hS.inj d' d1 e'' _ b hd' hl' hZ rfl hb'' hb')
 ·cases h
end
section
variable {M:Nat->Prop} {p0:PH} {w0:World} {S:St} {w:World} {p:PH} {β:Nat->Value} {P:Program} {a:Act}
theorem d7 {α:Type} {h:α->List Value->Prop} {x:α} {cs:List Value} (hx:h x cs):∀ n,aN h (List.replicate n x) (List.replicate n cs).flatten
 | 0=>rfl
 | n+1=>⟨cs,_,by simp [Sc],hx,d7 hx n⟩
theorem eP (z:Array Value) (hz:0<z.size):∀ n,(madeCells z (n * z.size)).toList=(List.replicate n z.toList).flatten:=by
 intro n;apply Sq;intro j
 have hl:((List.replicate n z.toList).flatten).length=n * z.size:=by
  induction n with
  | zero=>simp
  | succ n ih=>simp [Sc,ih,RD]; omega
 by_cases hj:j<n * z.size
 ·have h1:(madeCells z (n * z.size)).toList[j]?=some (z[j % z.size]'(Nat.mod_lt _ hz)):=by
   simp [madeCells,hj,Nat.mod_lt _ hz]
  rw [h1]
  have gen:∀ n j,j<n * z.size->((List.replicate n z.toList).flatten)[j]?=some (z[j % z.size]'(Nat.mod_lt _ hz)):=by
   intro n
   induction n with
   | zero=>intro j h; omega
   | succ n ih =>
    intro j h;simp only [Sc,List.flatten_cons,List.getElem?_append,Rw];split
    ·rename_i h2;simp [h2,Nat.mod_eq_of_lt h2]
    ·rename_i h2;rw [RD] at h;rw [ih (j - z.size) (by omega)];congr 2;exact (Nat.mod_eq_sub_mod (by omega)).symm
  exact (gen n j hj).symm
 ·rw [List.getElem?_eq_none (by simp [RL]; omega),List.getElem?_eq_none (by omega)]
theorem p6 {x y:Operand} (h:ma x y=true):a.eval x=a.eval y:=by
 unfold ma at h;split at h
 ·rename_i i j;have:=CC h;subst this; rfl
 ·rename_i j n k m;simp only [CF,ST] at h;obtain ⟨rfl,rfl⟩:=h; rfl
 ·cases h
theorem By (hS:SatB M p0 w0 S a.tmps w p β) {o:Oper} {d:Nat} {t:TypeId} {l c:Operand} (hd:o.dst=some d) (ho:o.op=.makeSlice t l c) (hlc:ma l c=true)
  {ps:List Prop} {S':St} (h:px P S d t (S.look [] l)=some (ps,S')) (hps:∀ q∈ps,q):EOK M p0 w0 S' P o a w:=by
 have hl:=aS hS (aL _) l;unfold px at h;split at h <;> try cases h
 rename_i e he;have hu:=cN he;split at h <;> try cases h
 rename_i T hT;split at h <;> try cases h
 rename_i i hi;split at h <;> try cases h
 rename_i z hz;split at h <;> try cases h
 rename_i _ _ y k n hy hav;rw [hav] at hl;split at h <;> simp only [pS,zn,reduceCtorEq] at h <;> obtain ⟨rfl,rfl⟩:=h;rename_i hb;simp only [CF] at hb;obtain ⟨i',z',hi',hsz,hby,hz',hzs⟩:=dE hb.1.1;rw [hi] at hi';injection hi' with hi'
 subst hi';rw [hz] at hz';injection hz' with hz'
 subst hz';have h0:0<=n:=hps _ (by simp);have hbig:n.toNat * T.bytes<=aK:=hps _ (by simp);obtain ⟨hle,_⟩:=ce hl;have hrc:a.eval c=.int k n:=by rw [<- p6 hlc]; exact hle
 have h8:=fx T;have hn8:n.toNat * 8<=n.toNat * T.bytes:=Rk _ h8;have hnb:n.toNat * i.bytes<=n.toNat * T.bytes:=Rk _ hby
 have hbytes:(i.bytes:Int) * n<=281474976710656:=by
  have:((n.toNat * i.bytes:Nat):Int)=(i.bytes:Int) * n:=by rw [Int.natCast_mul,Sy h0,Int.mul_comm]
  rw [<- this];simp only [aK] at hbig;omega
 have hrun:=run_make (P:=P) w t e i z hu hi hz k k n n h0 (RX _) hbytes (by simp only [aK] at hbig; omega)
 have hzc:z.cells.toList≠[]:=by
  intro e0;have:z.cells.size=0:=by simpa using congrArg List.length e0
  have:=Ty.size_pos T;omega
 have hyc:T.holds p y z.cells.toList:=by
  have hS0:SatB M p0 w0 { S with lh:=fun _=>none } a.tmps w p β :=
   ⟨hS.keep,hS.agr,hS.old,hS.size,fun d e h=>(by cases h),fun d e b h=>(by cases h),fun d d' e e' b h=>(by cases h),hS.env⟩
  have:=bc hS0 (rows:=false) T _ y _ hy (cD _ hzc);simpa using this
 have hcells:(madeCells z.cells (n.toNat * i.size)).toList=(List.replicate n.toNat z.cells.toList).flatten:=by
  have hpos:0<z.cells.size:=by rw [hzs]; exact Ty.size_pos T
  rw [hsz,<- hzs];exact eP z.cells hpos n.toNat
 have hn:=hS.newEntry (cs:=madeCells z.cells (n.toNat * i.size)) (t:=e) (d:=d) (e:=.row e T (List.replicate n.toNat y)) (v:=.slice (some ⟨w.heap.size,0,none⟩) n.toNat n.toNat) rfl (by
  refine ⟨(madeCells z.cells (n.toNat * i.size)).toList,⟨by simp [RL,hsz],.inr ⟨w.heap.size,n.toNat,_,by simp,Re _,RZ w _,by simp,?_,by simp [RL,hsz],?_⟩⟩,?_,by simpa using hbig⟩
  ·simp only [maxLen,aK] at *; omega
  ·rw [QG];simp [RL,hsz]
  ·rw [hcells];exact d7 hyc _)
 refine EOK.of_run hd (v:=.slice (some ⟨w.heap.size,0,none⟩) n.toNat n.toNat) (w':=w.alloc (.cells (madeCells z.cells (n.toNat * i.size)) e)) ?_ ⟨p,_,hn.set (dh hb.1.2) (show _=_ by simp)⟩;simp only [execOp,ho,QL,hle,hrc,hrun,QC,QU]
theorem pM {T:Ty} {y:T.den} {v:Value} (h:T.vholds p y v):T.holds p y v.cells.toList:=by
 cases T with
 | pair A B=>obtain ⟨cs,e,hc⟩:=h; rw [e]; exact hc
 | int k =>
  have h':(Ty.int k).holds p y [v]:=h;have e:=h'.1;injection e with e _
  rw [e] at h' |-;exact h'
 | bool =>
  have h':Ty.bool.holds p y [v]:=h;have e:[v]=[.bool y]:=h';injection e with e _
  rw [e] at h' |-;exact h'
 | str =>
  have h':Ty.str.holds p y [v]:=h;have e:=h'.1;injection e with e _
  rw [e] at h' |-;exact h'
 | arr T =>
  have h':(Ty.arr T).holds p y [v]:=h;have h2:=h';obtain ⟨A,c,l,e,_⟩:=h2;injection e with e _
  have:v.cells.toList=[v]:=by rw [e]; rfl
  rw [this];exact h'
 | nil =>
  have h':Ty.nil.holds p y [v]:=h;have e:[v]=[.slice none 0 0]:=h';injection e with e _
  rw [e] at h' |-;exact h'
 | ref T =>
  have h':(Ty.ref T).holds p y [v]:=h;have h2:=h';obtain ⟨b,o,l,e,_⟩:=h2;injection e with e _
  have:v.cells.toList=[v]:=by rw [e]; rfl
  rw [this];exact h'
 | fn A B =>
  have h':(Ty.fn A B).holds p y [v]:=h;have h2:=h';obtain ⟨f,v1,v2,e,_⟩:=h2;injection e with e _
  have:v.cells.toList=[v]:=by rw [e]; rfl
  rw [this];exact h'
 | map k V =>
  have h':(Ty.map k V).holds p y [v]:=h
  have:v.cells.toList=[v]:=by
   rcases h' with ⟨e,_⟩ | ⟨_,_,_,e,_⟩ <;> (injection e with e _; rw [e]; rfl)
  rw [this];exact h'
theorem pq {size:Nat} {T:Ty} (hT:T.size=size) {lh:Nat->Option LE} {ρ:Operand->AV} (hρ:∀ x y,(ρ x).toTy false lh T=some y->T.vholds p y (a.eval x)) :
  ∀ (parts:List (Nat×Operand)) (k:Nat) (ys:List T.den) (cur:Array Value),fN lh T ρ k parts=some ys->cur.size=(k+parts.length) * size ->
  ∃ cs l,Instr.fill (fun i=>some (i * size,size)) cur (parts.map fun x=>(x.1,a.eval x.2))=some cs/\aN (T.holds p) ys l/\cs.toList=cur.toList.take (k * size)++l/\ys.length=parts.length
 | [],k,ys,cur,h,hc=>by
  simp only [fN,pS] at h;subst h;refine ⟨cur,[],rfl,rfl,?_,rfl⟩;rw [QG (by simp; rw [hc]; simp),Q8]
 | (i,x)::rest,k,ys,cur,h,hc=>by
  simp only [fN] at h;split at h <;> try cases h
  rename_i hik;have hik:=CC hik;subst hik;split at h <;> simp only [pS,reduceCtorEq] at h;rename_i y ys' hy hys;subst h;have hv:=pM (hρ x y hy);have hsz:(a.eval x).cells.size=size:=by have:=Ty.holds_length T y _ hv; simpa [hT] using this
  have hlen:(a.eval x).cells.toList.length=size:=by simpa using hsz
  have hc':cur.size=i * size+size+rest.length * size:=by
   rw [hc,HN,SB,RD]; omega
  have hfs:=oa (i * size) (a.eval x).cells.toList 0 cur (by rw [hlen]; omega);simp only [RQ,hlen] at hfs
  obtain ⟨cs,l,h1,h2,h3,h4⟩:=pq hT hρ rest (i+1) ys' ((a.eval x).cells.toList.zipIdx.foldl (fun cs (x:Value×Nat)=>cs.setIfInBounds (i * size+x.2) x.1) cur) hys (by
   have e:∀ (A:Array Value),A.size=A.toList.length:=fun A=>by simp
   rw [e,hfs];simp only [KK,QD,QH,Rw,hsz];rw [hc',SB,RD];omega)
  refine ⟨cs,(a.eval x).cells.toList++l,?_,⟨_,l,rfl,hv,h2⟩,?_,by simp [h4]⟩
  ·simp only [Q1,Instr.fill]
   have hc2:¬ ((a.eval x).cells.size≠size||decide (i * size+(a.eval x).cells.size > cur.size))=true:=by
    simp [hsz]; omega
   rw [if_neg hc2];rw [<- h1];congr 1;rw [<- Array.foldl_toList];simp
  ·rw [h3,hfs,RD,iV]
   ·simp
   ·simp [hsz]; omega
theorem sk (hS:SatB M p0 w0 S a.tmps w p β) {o:Oper} {d:Nat} {t:TypeId} {len:Nat} {parts:Array (Nat×Operand)} (hd:o.dst=some d) (ho:o.op=.buildSlice t len parts)
  {ps:List Prop} {S':St} (h:mv P S d t len parts.toList=some (ps,S')):EOK M p0 w0 S' P o a w:=by
 unfold mv at h;split at h <;> try cases h
 rename_i e he;have hu:=cN he;split at h <;> try cases h
 rename_i T hT;obtain ⟨p1,hle,hS1⟩:=bZ ((parts.toList.map (fun x=>S.look [] x.2)).flatMap AV.owns) S p hS;have hn1:=(cQ ((parts.toList.map (fun x=>S.look [] x.2)).flatMap AV.owns) S).2.1;simp only at h;generalize S.freeze ((parts.toList.map (fun x=>S.look [] x.2)).flatMap AV.owns)=S1 at *;split at h <;> try cases h
 rename_i ys hys;split at h <;> simp only [pS,zn,reduceCtorEq] at h <;> obtain ⟨rfl,rfl⟩:=h;rename_i hb;simp only [CF] at hb;obtain ⟨⟨⟨⟨⟨hf,hdn⟩,_⟩,hpl⟩,h24⟩,hbg⟩:=hb;have hpl:=CC hpl;have h24:=QE h24;have hbg:=QE hbg;obtain ⟨i,z,hi,hsz,hby,hz,hzs⟩:=dE hf;have hTp:=Ty.size_pos T
 have hfill:=pq (p:=p1) (a:=a) (lh:=S1.lh) (ρ:=S1.look []) (T:=T) rfl (fun x y hy=>by
  have:=cR hS1 (rows:=false) hy (aS hS1 (aL _) x);simpa using this) parts.toList 0 ys ((Array.range (len * T.size)).map (z.cells[· % z.cells.size]!)) hys (by simp [<- hpl])
 obtain ⟨cs,l,h1,h2,h3,h4⟩:=hfill;simp only [Nat.zero_mul,R1,Q0] at h3;have hll:=dc (fun x cs h=>Ty.holds_length T x cs h) ys l h2
 have hcs:cs.size=len * T.size:=by
  have:cs.toList.length=l.length:=by rw [h3]
  simp only [Rw] at this;rw [this,hll,h4,hpl]
 have hlen:len=ys.length:=by omega
 have hn:=hS1.newEntry (cs:=cs) (t:=e) (d:=d) (e:=.row e T ys) (v:=.slice (some ⟨w.heap.size,0,none⟩) len len) rfl (by
  refine ⟨l,⟨hll,.inr ⟨w.heap.size,len,cs,by simp [hlen],Re _,RZ w _,by omega,?_,hcs,?_⟩⟩,h2,by rw [<- hlen]; exact hbg⟩
  ·have:=fx T;have h8:len * 8<=len * T.bytes:=Rk _ this;simp only [maxLen,aK] at *; omega
  ·rw [QG (by simp [hcs,hlen]),h3])
 refine EOK.of_run hd (v:=.slice (some ⟨w.heap.size,0,none⟩) len len) (w':=w.alloc (.cells cs e)) ?_ ⟨p1,_,hn.set (by show d<S1.n; rw [hn1]; exact dh hdn) (show _=_ by simp)⟩
 have hrun:(Instr.buildSlice t len (parts.map fun x=>(x.1,a.eval x.2))).run P w=.ok (.slice (some ⟨w.heap.size,0,none⟩) len len) (w.alloc (.cells cs e)):=by
  have n24:¬ (len * i.size > 2 ^ 24):=by rw [hsz]; omega
  have e2:(parts.map fun x=>(x.1,a.eval x.2)).toList=parts.toList.map fun x=>(x.1,a.eval x.2):=by simp
  by_cases h0:len * i.size=0
  ·have hl0:len=0:=by
    rcases Nat.mul_eq_zero.1 h0 with h | h
    ·exact h
    ·omega
   subst hl0;have hp0:parts.toList=[]:=QF hpl;have hcs0:cs=#[]:=by apply QZ.1; rw [h3]; exact QF (by rw [hll,<- hlen]; simp)
   subst hcs0;simp only [Instr.buildSlice,QL,QM hu,QC,sizeOf,typeInfo,Sf,hi,QU,if_neg n24,e2,hp0];simp [Instr.fill,newRow,Array.range_zero']
  ·simp only [Instr.buildSlice,QL,QM hu,QC,sizeOf,typeInfo,Sf,hi,QU,if_neg n24,if_neg h0,zeroValue,hz,e2];rw [hsz,h1];simp [newRow]
 simp only [execOp,ho,QL,hrun,QC,QU]
theorem zD {ρ:Operand->AV} {β:Nat->Value} (hρ:∀ x n off,ρ x=.loc n off->(AV.loc n off).one p β (a.eval x)) :
  ∀ (parts:List (Nat×Operand)) (k:Nat) (c:AV) (cur:Array Value),AZ ρ k parts=some c->cur.size=k+parts.length ->
  ∃ cs l,Instr.fill (fun i=>some (i * 1,1)) cur (parts.map fun x=>(x.1,a.eval x.2))=some cs/\c.cells p β l/\cs.toList=cur.toList.take k++l/\l.length=parts.length
 | [],k,c,cur,h,hc=>by cases h
 | (i,x)::rest,k,c,cur,h,hc=>by
  simp only [AZ] at h;split at h <;> try cases h
  rename_i n off hx;split at h <;> try cases h
  rename_i hik;have hik:=CC hik;subst hik;have h1:=hρ x n off hx;obtain ⟨b,e1,e2⟩:=h1;have hcl:(a.eval x).cells=#[a.eval x]:=by rw [e2]; rfl
  have hfs:=oa i [a.eval x] 0 cur (by simp only [HN,QQ] at hc |-; omega);simp only [RQ,HN,QQ] at hfs;have hc':cur.size=i+1+rest.length:=by rw [hc,HN]; omega
  have step:∀ cs,Instr.fill (fun i=>some (i * 1,1)) ([a.eval x].zipIdx.foldl (fun cs (x:Value×Nat)=>cs.setIfInBounds (i+x.2) x.1) cur) (rest.map fun x=>(x.1,a.eval x.2))=some cs ->
    Instr.fill (fun i=>some (i * 1,1)) cur (((i,x)::rest).map fun x=>(x.1,a.eval x.2))=some cs:=by
   intro cs h1;simp only [Q1,Instr.fill]
   have hc2:¬ ((a.eval x).cells.size≠1||decide (i * 1+(a.eval x).cells.size > cur.size))=true:=by
    simp [hcl]; omega
   rw [if_neg hc2];rw [<- h1];congr 1;rw [<- Array.foldl_toList,hcl];simp
  have hsz:([a.eval x].zipIdx.foldl (fun cs (x:Value×Nat)=>cs.setIfInBounds (i+x.2) x.1) cur).toList=cur.toList.take i++([a.eval x]++cur.toList.drop (i+1)):=by
   rw [hfs];simp
  have hone:(AV.loc n off).one p β (a.eval x):=⟨b,e1,e2⟩;cases rest with
  | nil =>
   simp only [pS] at h;subst h;refine ⟨_,[a.eval x],step _ rfl,hone,?_,rfl⟩;rw [hsz,Se (by simp [hc'])];simp
  | cons y rest =>
   simp only at h;split at h <;> simp only [pS,reduceCtorEq] at h;rename_i c' hc'';subst h
   obtain ⟨cs,l,h1,h2,h3,h4⟩:=zD hρ (y::rest) (i+1) c' ([a.eval x].zipIdx.foldl (fun cs (x:Value×Nat)=>cs.setIfInBounds (i+x.2) x.1) cur) hc'' (by
    have e:∀ (A:Array Value),A.size=A.toList.length:=fun A=>by simp
    rw [e,hsz];simp only [KK,QD,QH,Rw,HN,QQ];simp only [HN] at hc';omega)
   refine ⟨cs,a.eval x::l,step _ h1,⟨hone,h2⟩,?_,by simp [h4]⟩;rw [h3,hsz];have hl:(cur.toList.take i++[a.eval x]).length=i+1:=by simp only [KK,QD,Rw,HN,QQ]; omega
   rw [<- List.append_assoc,iV _ _ _ hl.symm];simp
theorem re (hS:SatB M p0 w0 S a.tmps w p β) {o:Oper} {d:Nat} {t:TypeId} {len:Nat} {parts:Array (Nat×Operand)} (hd:o.dst=some d) (ho:o.op=.buildSlice t len parts)
  {ps:List Prop} {S':St} (h:kY P S d t len parts.toList=some (ps,S')):EOK M p0 w0 S' P o a w:=by
 unfold kY at h;split at h <;> try cases h
 rename_i e he;have hu:=cN he;split at h <;> try cases h
 rename_i i hi;split at h <;> try cases h
 rename_i z c hz hc;split at h <;> simp only [pS,zn,reduceCtorEq] at h <;> obtain ⟨rfl,rfl⟩:=h;rename_i hb;simp only [CF] at hb;obtain ⟨⟨⟨⟨⟨hsz,hzs⟩,hpl⟩,hlen⟩,hdn⟩,_⟩:=hb;have hsz:=CC hsz;have hzs:=CC hzs;have hpl:=CC hpl;have hlen:=QE hlen
 have hfill:=zD (p:=p) (a:=a) (β:=β) (ρ:=S.look []) (fun x n off hx=>by
  have:=aS hS (aL _) x;rw [hx] at this;exact this) parts.toList 0 c ((Array.range (len * 1)).map (z.cells[· % z.cells.size]!)) hc (by simp [<- hpl])
 obtain ⟨cs,l,h1,h2,h3,h4⟩:=hfill;simp only [R1,Q0] at h3;have h2':c.cells p β cs.toList:=by rw [h3]; exact h2
 have hpos:parts.toList≠[]:=by
  intro e0;rw [e0] at hc;cases hc
 have hlpos:0<len:=by
  rw [<- hpl];exact Sw.2 hpos
 have hn:=hS.newEntry (cs:=cs) (t:=e) (d:=d) (e:=.cells (c.scrub (fun y=>Nat.beq y d))) (v:=.pointer (some ⟨w.heap.size,0,none⟩)) rfl
  ⟨w.heap.size,_,e,lQ _ _ _,RZ w _,mL h2'⟩
 refine EOK.of_run hd (v:=.slice (some ⟨w.heap.size,0,none⟩) len len) (w':=w.alloc (.cells cs e)) ?_ ⟨p,_,hn.set (dh hdn) (.inl ⟨w.heap.size,len,lQ _ _ _,QI _,rfl⟩)⟩
 have hrun:(Instr.buildSlice t len (parts.map fun x=>(x.1,a.eval x.2))).run P w=.ok (.slice (some ⟨w.heap.size,0,none⟩) len len) (w.alloc (.cells cs e)):=by
  have n24:¬ (len * i.size > 2 ^ 24):=by rw [hsz]; omega
  have h0:¬ (len * i.size=0):=by rw [hsz]; omega
  have e2:(parts.map fun x=>(x.1,a.eval x.2)).toList=parts.toList.map fun x=>(x.1,a.eval x.2):=by simp
  simp only [Instr.buildSlice,QL,QM hu,QC,sizeOf,typeInfo,Sf,hi,QU,if_neg n24,if_neg h0,zeroValue,hz,e2];rw [hsz,h1];simp [newRow]
 simp only [execOp,ho,QL,hrun,QC,QU]
theorem pB (hS:SatB M p0 w0 S a.tmps w p β) {o:Oper} {d:Nat} {t:TypeId} {len:Nat} {parts:Array (Nat×Operand)} (hd:o.dst=some d) (ho:o.op=.buildSlice t len parts)
  {ps:List Prop} {S':St} (h:jI P S d t len parts.toList=some (ps,S')):EOK M p0 w0 S' P o a w:=by
 unfold jI at h;split at h
 ·rename_i r hr;injection h with h
  subst h;exact sk hS hd ho hr
 ·exact re hS hd ho h
theorem pG:∀ (xs:List Int) (l:List Value),aN ((Ty.int .u8).holds p) xs l->l=xs.map (Value.int .u8)
 | [],l,h=>h
 | x::xs,l,⟨c1,c2,e,h1,h2⟩=>by rw [e,h1.1,pG xs c2 h2]; rfl
theorem sj (hS:SatB M p0 w0 S a.tmps w p β) {o:Oper} {d:Nat} {src dst:TypeId} {x:Operand} (hd:o.dst=some d) (ho:o.op=.convert src dst x)
  {ps:List Prop} {S':St} (h:mt P S d src dst (S.look [] x)=some (ps,S')):EOK M p0 w0 S' P o a w:=by
 have hx:=aS hS (aL _) x;unfold mt at h;split at h <;> try cases h
 rename_i e hs hdst;split at h <;> try cases h
 rename_i he;split at h <;> try cases h
 rename_i xs hxs;split at h <;> simp only [pS,zn,reduceCtorEq] at h <;> obtain ⟨rfl,rfl⟩:=h;rename_i hdn
 have key:∃ A len c l,a.eval x=.slice A len c/\len=xs.length/\l=xs.map (Value.int .u8)/\xs.length * 8<=aK /\
   (xs≠[]->∃ b o,A=some ⟨b,o,none⟩/\∀ (j:Nat) (u:Value),l[j]?=some u->w.cell? ⟨b,o+j,none⟩=some u):=by
  unfold uu at hxs;split at hxs
  ·rename_i hav;rw [hav] at hx;injection hxs with hxs
   subst hxs;exact ⟨none,0,0,[],hx,rfl,rfl,by simp,fun h=>absurd rfl h⟩
  ·split at hxs
   ·rename_i xs' har;injection hxs with hxs
    subst hxs;obtain ⟨A,c,l,e1,h2,h3,h4⟩:=ji hS har hx;exact ⟨A,_,c,l,e1,rfl,pG _ _ h2,h3,h4⟩
   ·cases hxs
 obtain ⟨A,len,c,l,e1,rfl,rfl,h3,h4⟩:=key
 have hrun:(convert src dst (a.eval x)).run P w=.ok (.string ⟨(aX xs).toArray⟩) w:=by
  rw [e1];by_cases hne:xs=[]
  ·subst hne;cases A with
   | none=>exact run_convert_bytes_nil w src e hs he _ _ dst hdst
   | some ad =>
    have:=run_convert_bytes_string (P:=P) w src dst e (some ad) 0 c hs he hdst;rw [show ([]:List Int).length=0 from rfl,this];have h5:=run_bytesToString (P:=P) w ad 0 c [] (by simp [loadCells,loadCellsFrom]);rw [h5]; rfl
  ·obtain ⟨b,o,rfl,hc⟩:=h4 hne
   have:=run_convert_bytes_arg (P:=P) w src e hs he b o xs.length c xs rfl (fun i hi=>by
    apply hc;simp [List.getD,hi]) dst hdst
   rw [this];simp [strOfNums,aX]
 refine EOK.of_run hd (v:=.string ⟨(aX xs).toArray⟩) (w':=w) ?_ ⟨p,β,hS.set (dh hdn) ⟨rfl,by simp only [aX,Q3,aK] at *; omega⟩⟩;simp only [execOp,ho,QL,hrun,QC,QU]
theorem ES {t:TypeId} {T:Ty} (h:gI P t T=true) (h1:T.size=1):∃ e,P.underlying t=some (.slice e)/\(P.info? e).map (·.size)=some 1:=by
 obtain ⟨e,inf,hu,hinf,hsz⟩:=fT h;exact ⟨e,hu,by rw [hinf,Q6,hsz,h1]⟩
theorem BB (hS:SatB M p0 w0 S a.tmps w p β) {o:Oper} {r:Nat} {t t':TypeId} {x y:Operand} (hd:o.dst=some r) (ho:o.op=.call { callee:=.builtin .copy,args:=#[x,y],argTypes:=#[t,t'] })
  {ps:List Prop} {S':St} (h:pA P S r t (S.look [] x) (S.look [] y)=some (ps,S')) (hps:∀ q∈ps,q):EOK M p0 w0 S' P o a w:=by
 have hx:=aS hS (aL _) x;have hy:=aS hS (aL _) y;unfold pA at h;split at h <;> try cases h
 rename_i d i n qs T' ys hsp hys;split at h <;> try cases h
 rename_i e T xs hZ;split at h <;> try cases h
 rename_i hT;subst hT;split at h <;> simp only [pS,zn,reduceCtorEq] at h <;> obtain ⟨rfl,rfl⟩:=h;rename_i hb;simp only [CF] at hb;obtain ⟨⟨⟨⟨⟨hso,hel⟩,hs1⟩,_⟩,_⟩,hrn⟩:=hb;have hs1:=CC hs1;have hin:i+n<=xs.length:=hps _ (by simp);obtain ⟨e',hu,hsz⟩:=ES hel hs1;obtain ⟨A,c,l2,e2,g2,g3,g4⟩:=BW hS hys (fun q hq=>hps q (by simp [hq])) hy;obtain ⟨l,k1,k2,k3⟩:=hS.lhs d _ hZ
 have hv:∃ B n' c',a.eval x=.slice B n' c'/\n'=n/\(n=0\/∃ b m cc,β d=.slice (some ⟨b,0,none⟩) m cc/\B=some ⟨b,i,none⟩):=by
  unfold AV.span at hsp;split at hsp
  ·rename_i d' T1 i' n' hav;simp only [pS,zn] at hsp;obtain ⟨rfl,rfl,rfl⟩:=hsp;rw [hav] at hx hso;have hT1:T1=T':=tM hso;subst hT1;rcases hx with ⟨b,m,cc,c',q1,q2⟩ | ⟨q1,B,c',q2⟩
   ·refine ⟨_,_,c',q2,rfl,.inr ⟨b,m,cc,q1,?_⟩⟩;rw [hs1,R3]
   ·exact ⟨B,0,c',q2,q1.symm,.inl q1⟩
  ·rename_i d' hav;split at hsp <;> simp only [pS,zn,reduceCtorEq] at hsp;rename_i _ _ xs' hd2;obtain ⟨rfl,rfl,rfl⟩:=hsp;rw [hZ] at hd2;cases hd2;rw [hav] at hx;have hx':a.eval x=β d':=hx;rcases k1.2 with ⟨q1,q2⟩ | ⟨g,cap,cur,q1,_⟩
   ·exact ⟨none,0,0,hx'.trans q1,q2.symm,.inl q2⟩
   ·exact ⟨_,_,cap,hx'.trans q1,rfl,.inr ⟨g,_,cap,q1,rfl⟩⟩
  ·cases hsp
 obtain ⟨B,n',c',hxe,rfl,hB⟩:=hv
 have hm8:min ys.length n'<=140737488355328:=by
  have:=fx T';have h8:ys.length * 8<=ys.length * T'.bytes:=Rk _ this;simp only [aK] at g3;omega
 have fin:∀ {w':World},(Builtin.copy_ #[t,t'] o.type #[a.eval x,a.eval y]).run P w=.ok (goInt (min ys.length n':Nat)) w'->Sat M p0 w0 ((S.entry d (.row e T' (xs.take i++(ys.take (min ys.length n')++xs.drop (i+min ys.length n'))))).set r (.int .i64 ((min ys.length n':Nat):Int))) (a.tmps.setIfInBounds r (goInt (min ys.length n':Nat))) w'->EOK M p0 w0 ((S.entry d (.row e T' (xs.take i++(ys.take (min ys.length n')++xs.drop (i+min ys.length n'))))).set r (.int .i64 ((min ys.length n':Nat):Int))) P o a w:=by
  intro w' hr hsat;obtain ⟨cs,hbi⟩:=d6 (a:=a) (w:=w) (P:=P) ho;refine EOK.of_run hd (v:=goInt (min ys.length n':Nat)) (w':=w') ?_ hsat;rw [hbi];simp only [builtin,R8,Q1,RR,QL,hr,QC,QU]
 have setR:∀ {w':World},SatB M p0 w0 (S.entry d (.row e T' (xs.take i++(ys.take (min ys.length n')++xs.drop (i+min ys.length n'))))) a.tmps w' p β ->
   Sat M p0 w0 ((S.entry d (.row e T' (xs.take i++(ys.take (min ys.length n')++xs.drop (i+min ys.length n'))))).set r (.int .i64 ((min ys.length n':Nat):Int))) (a.tmps.setIfInBounds r (goInt (min ys.length n':Nat))) w' :=
  fun hs=>⟨p,β,hs.set (dh hrn) ⟨rfl,by simp only [ak]; omega⟩⟩
 by_cases h0:min ys.length n'=0
 ·have hrun:=run_copy_none (P:=P) w t t' o.type e' B A n' c' ys.length c hu hsz h0;refine fin (w':=w) (by rw [hxe,e2,hrun,h0]; rfl) (setR ?_);have:xs.take i++(ys.take (min ys.length n')++xs.drop (i+min ys.length n'))=xs:=by rw [h0]; simp
  rw [this]
  have e3:S.entry d (.row e T' xs)=S:=by
   unfold St.entry
   have:(fun x=>bif Nat.beq x d then some (LE.row e T' xs) else S.lh x)=S.lh:=by
    funext x;cases hb:Nat.beq x d
    ·rfl
    ·rw [CC hb,hZ]; rfl
   rw [this]
  rw [e3];exact hS
 ·rcases hB with hB | ⟨b,m,cc,q1,rfl⟩
  ·omega
  have hne:ys≠[]:=by intro e0; rw [e0] at h0; simp at h0
  obtain ⟨b2,o2,rfl,hcell⟩:=g4 hne;rcases k1.2 with ⟨_,z0⟩ | ⟨g,cap,cur,q2,_,q3,q4,q4',q5,q6⟩
  ·omega
  rw [q1] at q2;injection q2 with q2 hm hcap
  injection q2 with q2
  injection q2 with q2
  subst q2;rw [hs1,R3] at q5 q6
  have hl2:l2.length=ys.length:=by
   have:=dc (fun x cs h=>Ty.holds_length (p:=p) T' x cs h) ys l2 g2;rw [this,hs1,R3]
  have hll:l.length=xs.length:=by have:=k1.1; rw [hs1,R3] at this; exact this
  have hcs:(l2.take (min ys.length n')).length=min ys.length n':=by simp; omega
  have hrun:=run_copy_row (P:=P) w t t' o.type e' b i n' c' ⟨b2,o2,none⟩ ys.length c cur e (l2.take (min ys.length n')) hu hsz q3 hcs
   (fun j v hj=>by
    rw [List.getElem?_take] at hj;split at hj
    ·rw [fX]; exact hcell j v hj
    ·cases hj)
   (by rw [hcs,q5]; omega) (fun v hv=>fM (fun x cs h=>dD T' x cs h) ys l2 g2 v (RG hv))
  obtain ⟨f1,f2,f3,f4,f5,f6⟩:=cf w b (cur.toList.take i++l2.take (min ys.length n')++cur.toList.drop (i+(l2.take (min ys.length n')).length)).toArray q3;refine fin (by rw [hxe,e2,hrun,hcs]) (setR (hS.turn hZ rfl (by rw [q1]; rfl) f2 f3 f4 f5 f6 ?_));have t1:=dz (fun x cs h=>Ty.holds_length (p:=p) T' x cs h) i xs l k2;have t2:=dz (fun x cs h=>Ty.holds_length (p:=p) T' x cs h) (min ys.length n') ys l2 g2;have t3:=fc (fun x cs h=>Ty.holds_length (p:=p) T' x cs h) (i+min ys.length n') xs l k2;rw [hs1,R3] at t1 t2 t3;have hnew:(xs.take i++(ys.take (min ys.length n')++xs.drop (i+min ys.length n'))).length=xs.length:=by simp; omega
  refine ⟨l.take i++(l2.take (min ys.length n')++l.drop (i+min ys.length n')),⟨?_,.inr ⟨b,cap,_,?_,Re _,f1,by omega,q4',?_,?_⟩⟩,cC _ _ _ _ t1 (cC _ _ _ _ t2 t3),by rw [hnew]; exact k3⟩
  ·rw [hnew,hs1,R3];simp;omega
  ·rw [q1,hm,hcap,hnew]
  ·simp only [RE,KK,QD,QH,Rw,hs1];omega
  ·rw [hnew,hs1,R3];have:=FX cur.toList l (l2.take (min ys.length n')) (s:=min ys.length n') (n:=min ys.length n') (o1:=i) (off:=0) (N:=xs.length) q6 (by simp; omega) (by omega) (by omega) hcs;simp only [RQ,R1,Q0,Rl] at this;rw [hcs];rw [this];simp
theorem nI (z:Array Value) (n:Nat):Builtin.zeroCells z n=madeCells z (n * z.size):=rfl
theorem yz {t e:TypeId} {z:Value} (ht:P.underlying t=some (.slice e)) (hz:∀ w,(zeroValue e).run P w=.ok z w) (ty:TypeId) {b o n c:Nat} {cur:Array Value} {ct:TypeId} (hn:0<n)
  (hg:w.heap[b]?=some (.cells cur ct (0,0))) (h1:∀ u∈(madeCells z.cells (n * z.cells.size)).toList,u.oneCell'=true) (hfit:o+n * z.cells.size<=cur.size) :
  (Builtin.clear_ #[t] ty #[.slice (some ⟨b,o,none⟩) n c]).run P w =
   .ok (.tuple #[]) (w.setRow b (cur.toList.take o++(madeCells z.cells (n * z.cells.size)).toList++cur.toList.drop (o+n * z.cells.size)).toArray):=by
 have hsz:(madeCells z.cells (n * z.cells.size)).toList.length=n * z.cells.size:=by simp [RL]
 have hst:=run_storeCells_at P b o ct (madeCells z.cells (n * z.cells.size)).toList 0 cur w hg (by rw [hsz]; omega) h1;simp only [RQ,hsz] at hst;obtain ⟨m,rfl⟩:∃ m,n=m+1:=⟨n - 1,by omega⟩;simp [Builtin.clear_,QM ht,hz,nI,hst]
theorem yc (hS:SatB M p0 w0 S a.tmps w p β) {o:Oper} {t:TypeId} {x:Operand} (hd:o.dst=none) (ho:o.op=.call { callee:=.builtin .clear,args:=#[x],argTypes:=#[t] })
  {ps:List Prop} {S':St} (h:us P S t (S.look [] x)=some (ps,S')) (hps:∀ q∈ps,q):EOK M p0 w0 S' P o a w:=by
 have hx:=aS hS (aL _) x
 have fin:∀ {w':World},(Builtin.clear_ #[t] o.type #[a.eval x]).run P w=.ok (.tuple #[]) w'->Sat M p0 w0 S' a.tmps w'->EOK M p0 w0 S' P o a w:=by
  intro w' hr hsat K Q hK;obtain ⟨cs,hb⟩:=d6 (a:=a) (w:=w) (P:=P) ho
  have hrun:(execOp a.eval o).run P w=.ok (.value (.tuple #[])) w':=by
   rw [hb];simp only [builtin,R8,Q1,RR,QL,hr,QC,QU]
  unfold Oper.wp;rw [hrun,Oper.upon_value,hd];exact hK _ w' hsat rfl
 unfold us at h;split at h <;> try cases h
 rename_i d T i n hav;rw [hav] at hx;split at h <;> try cases h
 rename_i e T' xs hZ;split at h <;> try cases h
 rename_i hT;subst hT;split at h <;> try cases h
 rename_i e' he';have hu:=cN he';split at h <;> try cases h
 rename_i inf hinf;split at h <;> try cases h
 rename_i z hz;split at h <;> try cases h
 rename_i y hy;split at h <;> simp only [pS,zn,reduceCtorEq] at h;rename_i hb;obtain ⟨rfl,rfl⟩:=h;have hin:i+n<=xs.length:=hps _ (by simp)
 have hzc:z.cells.toList≠[]:=by
  intro e0;rw [e0] at hy;rw [show AV.ofCells ([]:List Value)=.any from rfl,lC] at hy;cases hy
 have hyc:T'.holds p y z.cells.toList:=by
  have hS0:SatB M p0 w0 { S with lh:=fun _=>none } a.tmps w p β :=
   ⟨hS.keep,hS.agr,hS.old,hS.size,fun d e h=>(by cases h),fun d e b h=>(by cases h),fun d d' e e' b h=>(by cases h),hS.env⟩
  have:=bc hS0 (rows:=false) T' _ y _ hy (cD _ hzc);simpa using this
 have hzs:z.cells.size=T'.size:=by have:=Ty.holds_length _ _ _ hyc; simpa using this
 have hzr:∀ w,(zeroValue e').run P w=.ok z w:=by
  intro w;simp [zeroValue,typeInfo,hinf,hz]
 obtain ⟨l,k1,k2,k3⟩:=hS.lhs d _ hZ
 have same:n=0->xs.take i++(List.replicate n y++xs.drop (i+n))=xs:=by
  intro h0;rw [h0];simp
 have nop:n=0->S.entry d (.row e T' (xs.take i++(List.replicate n y++xs.drop (i+n))))=S:=by
  intro h0;rw [same h0];unfold St.entry
  have:(fun x=>bif Nat.beq x d then some (LE.row e T' xs) else S.lh x)=S.lh:=by
   funext x;cases hb:Nat.beq x d
   ·rfl
   ·rw [CC hb,hZ]; rfl
  rw [this]
 by_cases h0:n=0
 ·have hv0:∃ A c,a.eval x=.slice A 0 c:=by
   rcases hx with ⟨b,m,c,c',_,q2⟩ | ⟨_,A,c,q2⟩
   ·exact ⟨_,_,by rw [q2,h0]⟩
   ·exact ⟨A,c,q2⟩
  obtain ⟨A,c,hv0⟩:=hv0;refine fin (w':=w) ?_ ?_
  ·rw [hv0];cases A <;> simp [Builtin.clear_,QM hu]
  ·rw [nop h0];exact ⟨p,β,hS⟩
 rcases hx with ⟨b,m,c,c',q1,q2⟩ | ⟨hn0,_⟩
 case inr=>exact absurd hn0 h0
 rcases k1.2 with ⟨_,z0⟩ | ⟨g,cap,cur,q3,_,q4,q5,q5',q6,q7⟩
 ·omega
 rw [q1] at q3;injection q3 with q3 hm hcap
 injection q3 with q3
 injection q3 with q3
 subst q3;have hll:l.length=xs.length * T'.size:=k1.1;have hmade:(madeCells z.cells (n * z.cells.size)).toList=(List.replicate n z.cells.toList).flatten:=eP z.cells (by rw [hzs]; exact Ty.size_pos T') n
 have hrep:aN (T'.holds p) (List.replicate n y) (madeCells z.cells (n * z.cells.size)).toList:=by
  rw [hmade];exact d7 hyc _
 have hfit1:(i+n) * T'.size<=xs.length * T'.size:=Q2 _ hin;have hfit2:xs.length * T'.size<=cap * T'.size:=Q2 _ q5;rw [SB] at hfit1;have hmsz:(madeCells z.cells (n * z.cells.size)).toList.length=n * T'.size:=by simp [RL,hzs]
 have hrun:=yz (P:=P) (w:=w) (c:=c') hu hzr o.type (b:=b) (o:=i * T'.size) (n:=n) (cur:=cur) (ct:=e) (by omega) q4
  (fM (fun x cs h=>dD T' x cs h) _ _ hrep) (by rw [hzs]; omega)
 rw [hzs] at hrun hmsz hrep;obtain ⟨f1,f2,f3,f4,f5,f6⟩:=cf w b (cur.toList.take (i * T'.size)++(madeCells z.cells (n * T'.size)).toList++cur.toList.drop (i * T'.size+n * T'.size)).toArray q4;refine fin (by rw [q2]; exact hrun) ⟨p,β,hS.turn hZ rfl (by rw [q1]; rfl) f2 f3 f4 f5 f6 ?_⟩;have t1:=dz (fun x cs h=>Ty.holds_length (p:=p) T' x cs h) i xs l k2;have t3:=fc (fun x cs h=>Ty.holds_length (p:=p) T' x cs h) (i+n) xs l k2;have hnew:(xs.take i++(List.replicate n y++xs.drop (i+n))).length=xs.length:=by simp; omega
 refine ⟨l.take (i * T'.size)++((madeCells z.cells (n * T'.size)).toList++l.drop ((i+n) * T'.size)),⟨?_,.inr ⟨b,cap,_,?_,Re _,f1,by omega,q5',?_,?_⟩⟩,cC _ _ _ _ t1 (cC _ _ _ _ hrep t3),by rw [hnew]; exact k3⟩
 ·rw [hnew,SB];simp only [KK,QD,QH,hmsz];omega
 ·rw [q1,hm,hcap,hnew]
 ·simp only [RE,KK,QD,QH,Rw,hmsz];omega
 ·rw [hnew];have:=FX cur.toList l (madeCells z.cells (n * T'.size)).toList (s:=n * T'.size) (n:=n * T'.size) (o1:=i * T'.size) (off:=0) (N:=xs.length * T'.size) q7 (by simp; omega) (by omega) (by omega) hmsz;simp only [RQ,R1,Q0,Rl] at this;rw [this,SB];simp
theorem pD (hS:SatB M p0 w0 S a.tmps w p β) {o:Oper} {d:Nat} {t t':TypeId} {s x:Operand} (hd:o.dst=some d) (ho:o.op=.call { callee:=.builtin .append,args:=#[s,x],argTypes:=#[t,t'] })
  {ps:List Prop} {S':St} (h:fh P S d t t' (S.look [] s) (S.look [] x)=some (ps,S')) (hps:∀ q∈ps,q):EOK M p0 w0 S' P o a w:=by
 have hs:=aS hS (aL _) s;have hx:=aS hS (aL _) x;unfold fh at h;split at h <;> try cases h
 rename_i e kn he hkn;have hu:=cN he;split at h <;> try cases h
 rename_i T hT;split at h <;> try cases h
 rename_i i hi;split at h <;> try cases h
 rename_i z hz;split at h <;> try cases h
 rename_i _ _ _ y k n hy has hax;rw [has] at hs;rw [hax] at hx;split at h <;> simp only [pS,zn,reduceCtorEq] at h <;> obtain ⟨rfl,rfl⟩:=h;rename_i hb;simp only [CF] at hb;obtain ⟨i',z',hi',hsz,hby,hz',hzs⟩:=dE hb.1.1;rw [hi] at hi';injection hi' with hi'
 subst hi';rw [hz] at hz';injection hz' with hz'
 subst hz';have h0:0<n:=hps _ (by simp);have hbig:n.toNat * T.bytes<=aK:=hps _ (by simp);have hse:a.eval s=.slice none 0 0:=hs;obtain ⟨hxe,_⟩:=ce hx;have hxe:a.eval x=.int k ((n.toNat:Nat):Int):=by rw [hxe,Sy (by omega)]
 have h8:=fx T;have hTp:=Ty.size_pos T;have hn8:n.toNat * 8<=n.toNat * T.bytes:=Rk _ h8;have hnb:n.toNat * i.bytes<=n.toNat * T.bytes:=Rk _ hby;have hmx:n.toNat<=maxLen:=by simp only [maxLen,aK] at *; omega
 have hcapge:=grownCap_ge w (0+n.toNat) 0 e;have hcaple:=grownCap_le_maxLen w (0+n.toNat) 0 e (by simpa using hmx)
 have hns:Builtin.nextslicecap (0+n.toNat) 0 * i.bytes<=281474976710656:=by
  have:Builtin.nextslicecap (0+n.toNat) 0=n.toNat:=by
   unfold Builtin.nextslicecap;rw [if_pos (by omega),Rl]
  rw [this];simp only [aK] at hbig;omega
 have hrun:=Lib.run_append_grow_zeros (P:=P) w t t' o.type e i z k kn hu hkn hi hz none 0 0 [] (by simp [Builtin.firstCells]) n.toNat (by omega) (by rw [hsz]; exact hTp) (by omega) (by simp only [maxLen] at hmx; omega) (by simp only [aK] at hbig; omega) hns
 have hzc:z.cells.toList≠[]:=by
  intro e0;have:z.cells.size=0:=by simpa using congrArg List.length e0
  omega
 have hyc:T.holds p y z.cells.toList:=by
  have hS0:SatB M p0 w0 { S with lh:=fun _=>none } a.tmps w p β :=
   ⟨hS.keep,hS.agr,hS.old,hS.size,fun d e h=>(by cases h),fun d e b h=>(by cases h),fun d d' e e' b h=>(by cases h),hS.env⟩
  have:=bc hS0 (rows:=false) T _ y _ hy (cD _ hzc);simpa using this
 generalize hcap:grownCap w (0+n.toNat) 0 e=cap at *
 have hcells:(Builtin.zeroCells z.cells n.toNat).toList=(List.replicate n.toNat z.cells.toList).flatten:=by
  rw [nI];exact eP z.cells (by rw [hzs]; exact hTp) n.toNat
 have hcz:(Builtin.zeroCells z.cells n.toNat).size=n.toNat * T.size:=by rw [nI,RL,hzs]
 have hn:=hS.drew.newEntry (cs:=([]:List Value).toArray++Builtin.zeroCells z.cells n.toNat++Builtin.zeroCells z.cells (cap - (0+n.toNat))) (t:=e) (d:=d) (e:=.row e T (List.replicate n.toNat y)) (v:=.slice (some ⟨w.heap.size,0,none⟩) (0+n.toNat) cap) rfl (by
  refine ⟨(Builtin.zeroCells z.cells n.toNat).toList,⟨by simp [hcz],.inr ⟨w.heap.size,cap,_,by simp,Re _,RZ w.drew _,by simpa using hcapge,hcaple,?_,?_⟩⟩,?_,by simpa using hbig⟩
  ·simp only [Array.size_append,nI,RL,hzs];simp only [Rl] at hcapge;simp;rw [<- SB];congr 1;omega
  ·simp only [QV];rw [Array.toList_append,QY (by simp [hcz])];rw [QG (by simp [hcz])];simp
  ·rw [hcells];exact d7 hyc _)
 obtain ⟨cs,hbi⟩:=d6 (a:=a) (w:=w) (P:=P) ho;refine EOK.of_run hd (v:=.slice (some ⟨w.heap.size,0,none⟩) (0+n.toNat) cap) (w':=w.drew.alloc (.cells (([]:List Value).toArray++Builtin.zeroCells z.cells n.toNat++Builtin.zeroCells z.cells (cap - (0+n.toNat))) e)) ?_ ⟨p,_,hn.set (dh hb.1.2) (show _=_ by simp)⟩;rw [hbi];simp only [builtin,R8,Q1,RR,QL,hse,hxe,hrun,QC,QU]
theorem EJ (hS:SatB M p0 w0 S a.tmps w p β) {o:Oper} {r:Nat} {t:TypeId} {x h':Operand} (hd:o.dst=some r) (ho:o.op=.slice t x none (some h') none)
  {ps:List Prop} {S':St} (h:wP P S r t (S.look [] x) (S.look [] h')=some (ps,S')) (hps:∀ q∈ps,q):EOK M p0 w0 S' P o a w:=by
 have hx:=aS hS (aL _) x;have hh:=aS hS (aL _) h';unfold wP at h;split at h <;> try cases h
 rename_i d k b hax hah;rw [hax] at hx;rw [hah] at hh;split at h <;> try cases h
 rename_i e T xs hZ;split at h <;> simp only [pS,zn,reduceCtorEq] at h <;> obtain ⟨rfl,rfl⟩:=h;rename_i hb;simp only [CF] at hb;obtain ⟨⟨⟨hok,_⟩,hrn⟩,_⟩:=hb;have h0:0<=b:=hps _ (by simp);have h1:b<=(xs.length:Int):=hps _ (by simp);obtain ⟨e',inf,hu,hinf,hsz⟩:=fT hok;obtain ⟨hbe,_⟩:=ce hh;have hbe:a.eval h'=.int k ((b.toNat:Nat):Int):=by rw [hbe,Sy h0]
 have hxe:a.eval x=β d:=hx;obtain ⟨l,k1,k2,k3⟩:=hS.lhs d _ hZ;have hS0:SatB M p0 w0 (S.entry d .dead) a.tmps w p β:=hS.entry trivial (fun b h=>by cases h) (fun d' e' b _ h=>by cases h);have htake:(xs.take b.toNat).length=b.toNat:=by simp; omega
 have hrow:=dz (fun x cs h=>Ty.holds_length (p:=p) T x cs h) b.toNat xs l k2;have hbig':(xs.take b.toNat).length * T.bytes<=aK:=by rw [htake]; exact Ra (Q2 _ (by omega)) k3
 have hll:=k1.1
 have key:∃ v,(Instr.sliceAt t (a.eval x) none (some (a.eval h')) none).run P w=.ok v w/\w.ownsRow 0 e T.size v (xs.take b.toNat).length (l.take (b.toNat * T.size))/\b8 v=b8 (β d):=by
  rw [htake];rcases k1.2 with ⟨q1,q2⟩ | ⟨g,cap,cur,q1,_,q3,q4,q4',q5,q6⟩
  ·have hz:xs.length=0:=q2;have hb0:b.toNat=0:=by omega
   refine ⟨_,by rw [hxe,q1,hbe]; exact gQ hu hinf (l:=0) (h:=b.toNat) (Re _) (len:=0) (cap:=0) (by omega) (QI _) (.inl ⟨rfl,rfl⟩) (.inr ⟨k,rfl⟩),?_,by rw [q1]; simp [b8]⟩;rw [hb0];simpa using SG w 0 e T.size
  ·refine ⟨_,by rw [hxe,q1,hbe]; exact gQ hu hinf (l:=0) (h:=b.toNat) (Re _) (by omega) q4 (.inl ⟨rfl,rfl⟩) (.inr ⟨k,rfl⟩),?_,?_⟩
   ·have ea:(if cap=0 then (some ⟨g,0,none⟩:Option Addr) else (some (⟨g,0,none⟩:Addr)).map (·.add (0 * inf.size)))=some ⟨g,0,none⟩:=by
     split
     ·rfl
     ·simp [fX]
    rw [ea];refine ⟨by simp only [QD,hll]; rw [RO (Q2 _ (by omega))],.inr ⟨g,cap,cur,by simp,Re _,q3,by omega,q4',q5,?_⟩⟩;rw [<- q6,R2,RO (Q2 _ (by omega))]
   ·rw [q1];split
    ·rfl
    ·simp [fX,b8]
 obtain ⟨v,hrun,hown,hblk⟩:=key
 have hfresh:=hS0.fresh (d:=r) (e:=.row e T (xs.take b.toNat)) (v:=v) ⟨_,by simpa using hown,hrow,hbig'⟩
  (fun b' _ hb'=>by
   rw [hblk] at hb';exact hS.owns d _ b' hZ rfl hb')
  (fun d' e'' b' _ _ hd' hl' hb' hb''=>by
   rw [hblk] at hb'
   have hne:d'≠d:=by
    intro e3;subst e3;simp only [St.entry,eB,QS,pS] at hd';subst hd';cases hl'
   simp only [St.entry,cj hne,QB] at hd';exact hne (hS.inj d' d e'' _ b' hd' hl' hZ rfl hb'' hb'))
 refine EOK.of_run hd (v:=v) (w':=w) ?_ ⟨p,_,hfresh.set (dh hrn) (show v=_ by simp)⟩;simp only [execOp,ho,QL,Option.map_none,Q6,hrun,QC,QU]
theorem ub (hS:SatB M p0 w0 S a.tmps w p β) {o:Oper} {d:Nat} {t:TypeId} (hd:o.dst=some d) (ho:o.op=.makeMap t none) {ps:List Prop} {S':St}
  (h:ob P S d t=some (ps,S')):EOK M p0 w0 S' P o a w:=by
 unfold ob at h;split at h <;> try cases h
 rename_i k V _;split at h <;> simp only [pS,zn,reduceCtorEq] at h;rename_i hb;obtain ⟨rfl,rfl⟩:=h;simp only [CF] at hb
 have hs:(LE.mapp k V []).sat p (fun x=>if x=d then .map (some w.heap.size) else β x) (w.alloc (.map #[] 0)) d :=
  ⟨w.heap.size,#[],0,by simp,(MapKept.heap_alloc w _).1,⟨by simp,by simp⟩,rfl⟩
 have hn:=hS.newObj (d:=d) (v:=.map (some w.heap.size)) rfl hs;refine EOK.of_run hd (v:=.map (some w.heap.size)) (w':=w.alloc (.map #[] 0)) ?_ ⟨p,_,hn.set (dh hb.1) (show _=_ by simp)⟩;simp only [execOp,ho,QL,Option.map_none];rfl
theorem x9 (hS:SatB M p0 w0 S a.tmps w p β) {o:Oper} {d:Nat} {t:TypeId} {x:Operand} (hd:o.dst=some d) (ho:o.op=.range t x) {ps:List Prop} {S':St}
  (h:uq P S d t (S.look [] x)=some (ps,S')):EOK M p0 w0 S' P o a w:=by
 have hxv:=aS hS (aL _) x;unfold uq at h;split at h <;> try cases h
 rename_i kt e m hu hx;rw [hx] at hxv;split at h <;> try cases h
 rename_i k V l hm;split at h <;> simp only [pS,zn,reduceCtorEq] at h;rename_i hb;obtain ⟨rfl,rfl⟩:=h;simp only [CF] at hb;obtain ⟨p',g,es,clock,_,e1,e2,e3,e4,e5,hS1⟩:=hS.frozeMap hm
 have hn:=hS1.newObj (o:=.mapIter (some g) clock #[] clock) (d:=d) (e:=.iter k V l none) (v:=.pointer (some ⟨w.heap.size,0,none⟩)) rfl
  ⟨w.heap.size,g,clock,#[],clock,es,clock,by simp,RZ _ _,e4,e3,e3.2,QI _,QI _,by
   have:leftOf es #[]=es:=by simp [leftOf]
   rw [this];exact e5,fun x hx=>by cases hx⟩
 have hxe:a.eval x=.map (some g):=by
  have h9:a.eval x=β m:=hxv;rw [h9,e1]
 refine EOK.of_run hd (v:=.pointer (some ⟨w.heap.size,0,none⟩)) (w':=w.alloc (.mapIter (some g) clock #[] clock)) ?_ ⟨p',_,hn.set (dh hb.1.1) ⟨w.heap.size,by simp,rfl⟩⟩;simp only [execOp,ho,hxe,QL,run_range_map w t kt e g es clock hu e2,QC,QU]
theorem oJ {t kt e:TypeId} {k:IntKind} (hu:P.underlying t=some (.map kt e)) (hku:P.underlying kt=some (.int k)) {g:Nat} {es:Array MapEntry} {clock:Nat} (hg:w.heap[g]?=some (.map es clock)) (hst:jL es clock) {α:Type} {hh:α->Value->Prop} {m:List (Int×α)}
  (hm:cz k hh m es.toList) {n:Int} (hn:ak k n) {y:α} {v:Value} (hv:hh y v) :
  ∃ es' clock',(Instr.mapUpdate t (.map (some g)) (.int k n) v).run P w=.ok () { w with heap:=w.heap.setIfInBounds g (.map es' clock') }/\jL es' clock'/\cz k hh (gp m n y) es'.toList:=by
 rcases jH hn m es.toList 0 hm with ⟨_,g2,g3⟩ | ⟨x,j,e0,_,g2,g3,g4,_,g6⟩
 ·refine ⟨es.push { key:=.int k n,val:=v,born:=clock },clock+1,?_,⟨?_,?_⟩,?_⟩
  ·simp [Instr.mapUpdate,QM hu,Sd hg,c6 hku,dv hku g2,MapKept.run_setObj_map _ hg]
  ·simp only [Array.toList_push,Rg,Q1,RR];refine Sp.2 ⟨hst.1,by simp,fun a ha b hb=>?_⟩;simp only [QA] at hb;subst hb;obtain ⟨x,hx,rfl⟩:=QR.1 ha;exact hst.2 x hx
  ·intro x hx;simp only [Array.toList_push,Qx,QA] at hx;rcases hx with hx | rfl
   ·have:=hst.2 x hx; omega
   ·simp
  ·rw [Array.toList_push];exact g3 y v clock hv
 ·have hj:es[j]?=some e0:=by simpa using g3
  refine ⟨es.modify j fun e=>{ e with key:=.int k n,val:=v },clock,?_,?_,?_⟩
  ·have g2':Instr.findNow (.int k) (.int k n) es.toList 0=some (some (j,e0.val)):=by rw [g2]; simp
   have hk:(Instr.keyThatStays (((es[j]?).map (·.key)).getD (.int k n)) (.int k n)).run P w=.ok (.int k n) w:=by
    simp [hj,g4,Instr.keyThatStays,Instr.sameBits]
   simp only [Instr.mapUpdate,QL,QM hu,QC,Sd hg,c6 hku,dv hku g2',hk,MapKept.run_setObj_map _ hg]
  ·have hborn:(es.modify j fun e=>{ e with key:=.int k n,val:=v }).toList.map (·.born)=es.toList.map (·.born):=by
    apply Sq;intro i;simp only [List.getElem?_map,Array.getElem?_toList,Array.getElem?_modify];by_cases hij:j=i
    ·subst hij; simp [hj]
    ·simp [hij]
   refine ⟨by rw [hborn]; exact hst.1,fun x hx=>?_⟩;have:x.born∈(es.modify j fun e=>{ e with key:=.int k n,val:=v }).toList.map (·.born):=QR.2 ⟨x,hx,rfl⟩;rw [hborn] at this;obtain ⟨z,hz,e⟩:=QR.1 this;rw [<- e];exact hst.2 z hz
  ·have:(es.modify j fun e=>{ e with key:=.int k n,val:=v }).toList=es.toList.modify j fun e=>{ e with key:=.int k n,val:=v }:=by simp
   rw [this];exact g6 y v hv
theorem xT {t kt e:TypeId} {k:IntKind} (hu:P.underlying t=some (.map kt e)) (hku:P.underlying kt=some (.int k)) {g:Nat} {es:Array MapEntry} {clock:Nat} (hg:w.heap[g]?=some (.map es clock)) (hst:jL es clock) {n:Int} {v:Value} {j:Nat} {e0:MapEntry}
  (hj:es[j]?=some e0) (g2':Instr.findNow (.int k) (.int k n) es.toList 0=some (some (j,e0.val))) (g4:e0.key=.int k n) :
  (Instr.mapUpdate t (.map (some g)) (.int k n) v).run P w=.ok () { w with heap:=w.heap.setIfInBounds g (.map (es.modify j fun e=>{ e with key:=.int k n,val:=v }) clock) }/\jL (es.modify j fun e=>{ e with key:=.int k n,val:=v }) clock:=by
 refine ⟨?_,?_⟩
 ·have hk:(Instr.keyThatStays (((es[j]?).map (·.key)).getD (.int k n)) (.int k n)).run P w=.ok (.int k n) w:=by
   simp [hj,g4,Instr.keyThatStays,Instr.sameBits]
  simp only [Instr.mapUpdate,QL,QM hu,QC,Sd hg,c6 hku,dv hku g2',hk,MapKept.run_setObj_map _ hg]
 ·have hborn:(es.modify j fun e=>{ e with key:=.int k n,val:=v }).toList.map (·.born)=es.toList.map (·.born):=by
   apply Sq;intro i;simp only [List.getElem?_map,Array.getElem?_toList,Array.getElem?_modify];by_cases hij:j=i
   ·subst hij; simp [hj]
   ·simp [hij]
  refine ⟨by rw [hborn]; exact hst.1,fun x hx=>?_⟩;have:x.born∈(es.modify j fun e=>{ e with key:=.int k n,val:=v }).toList.map (·.born):=QR.2 ⟨x,hx,rfl⟩;rw [hborn] at this;obtain ⟨z,hz,e⟩:=QR.1 this;rw [<- e];exact hst.2 z hz
theorem oE {V:Ty} {k:IntKind} {c c':AV}:∀ (m:List (Int×Option V.den)) (es:List MapEntry),(∀ e∈m,e.2≠none)->cz k (jb p β V c) m es->cz k (jb p β V c') m es
 | [],_,_,h=>h
 | x::m,_,hn,⟨e,es',e1,h1,h2,h3,h4⟩=>by
  refine ⟨e,es',e1,h1,h2,?_,oE m es' (fun y hy=>hn y (by simp [hy])) h4⟩;cases hx:x.2 with
  | none=>exact absurd hx (hn x (by simp))
  | some y=>rw [hx] at h3; exact h3
theorem oD {V:Ty} {k:IntKind} {c:AV}:∀ (m:List (Int×V.den)) (es:List MapEntry),cz k (fun x v=>fC V (V.holds p x) v) m es->cz k (jb p β V c) (m.map fun e=>(e.1,some e.2)) es
 | [],_,h=>h
 | _::m,_,⟨e,es',e1,h1,h2,h3,h4⟩=>⟨e,es',e1,h1,h2,h3,oD m es' h4⟩
theorem nh {V:Ty} {k:IntKind} {c:AV} {y:V.den} (hy:∀ v,c.one p β v->fC V (V.holds p y) v):∀ (m:List (Int×Option V.den)) (es:List MapEntry),cz k (jb p β V c) m es->cz k (fun x v=>fC V (V.holds p x) v) (m.map fun e=>(e.1,e.2.getD y)) es
 | [],_,h=>h
 | x::m,_,⟨e,es',e1,h1,h2,h3,h4⟩=>by
  refine ⟨e,es',e1,h1,h2,?_,nh hy m es' h4⟩;show fC V (V.holds p (x.2.getD y)) e.val;cases hx:x.2 with
  | none=>rw [hx] at h3; exact hy _ h3
  | some z=>rw [hx] at h3; exact h3
theorem qC {V:Ty} {k:IntKind} {c:AV} {n:Int} (hn:ak k n):∀ (m:List (Int×Option V.den)) (es:List MapEntry) (i:Nat),cz k (jb p β V c) m es->bA m n=some none->Mt m ->
  ∃ j e0,Instr.findNow (.int k) (.int k n) es i=some (some (i+j,e0.val))/\es[j]?=some e0/\e0.key=.int k n/\∀ (v:Value) (c':AV),c'.one p β v->cz k (jb p β V c') m (es.modify j fun e=>{ e with key:=.int k n,val:=v })
 | [],_,_,_,h,_=>by cases h
 | x::m,_,i,⟨e,es',e1,h1,h2,h3,h4⟩,hg,hl=>by
  subst e1;by_cases hx:x.1=n
  ·subst hx;simp only [bA,if_true,pS] at hg;refine ⟨0,e,by simp [Instr.findNow,Instr.sameNow,h1],rfl,h1,fun v c' hv=>?_⟩;refine ⟨_,es',rfl,rfl,hn,?_,oE m es' (hl.1 hg) h4⟩;rw [hg];exact hv
  ·have hs:Instr.sameNow (.int k) (.int k n) e.key=some false:=by
    rw [h1];simp only [Instr.sameNow,if_true,pS,beq_eq_false_iff_ne];exact fun e=>hx e.symm
   simp only [bA,if_neg hx] at hg;obtain ⟨j,e0,q1,q2,q3,q4⟩:=qC hn m es' (i+1) h4 hg hl.2;refine ⟨j+1,e0,?_,by simpa using q2,q3,fun v c' hv=>⟨e,_,by simp,h1,h2,?_,q4 v c' hv⟩⟩
   ·simp only [Instr.findNow,hs,q1];congr 3;omega
   ·cases hx2:x.2 with
    | some y=>rw [hx2] at h3; exact h3
    | none =>
     exfalso
     have:∃ e'∈m,e'.2=none:=by
      clear h1 h2 h3 h4 hs q1 q2 q3 q4 hl
      induction m with
      | nil=>cases hg
      | cons z m ih =>
       simp only [bA] at hg;split at hg
       ·exact ⟨z,by simp,RA hg⟩
       ·obtain ⟨w,hw,e⟩:=ih hg;exact ⟨w,by simp [hw],e⟩
     obtain ⟨e',he',h0⟩:=this;exact hl.1 hx2 e' he' h0
theorem rV {α:Type} (n:Int):∀ (m:List (Int×α)),Mt (gp (m.map fun e=>(e.1,some e.2)) n none)/\bA (gp (m.map fun e=>(e.1,some e.2)) n none) n=some none
 | []=>⟨⟨fun _ _ h=>(by cases h),trivial⟩,by simp [gp,bA]⟩
 | x::m=>by
  have ih:=rV n m;simp only [Q1,gp];split
  ·refine ⟨⟨fun _ e' he'=>?_,?_⟩,by simp [bA]⟩
   ·obtain ⟨z,_,rfl⟩:=QR.1 he';simp
   ·have:∀ (l:List (Int×α)),Mt (l.map fun e=>(e.1,some e.2)):=by
     intro l
     induction l with
     | nil=>trivial
     | cons z l ih=>exact ⟨fun h=>(by cases h),ih⟩
    exact this m
  ·rename_i hne;exact ⟨⟨fun h=>(by cases h),ih.1⟩,by simp only [bA]; rw [if_neg hne]; exact ih.2⟩
theorem tt {tm:Array Value} {c:AV} {v:Value} (hl:c.leafB=true) (h:c.val p β tm v):c.one p β v:=by
 cases c <;> first | exact h | cases hl
theorem t7 (hS:SatB M p0 w0 S a.tmps w p β) {o:Oper} {t:TypeId} {m x v:Operand} (hd:o.dst=none) (ho:o.op=.mapUpdate t m x v\/o.op=.insert t m x v) {ps:List Prop} {S':St}
  (h:eU P S t (S.look [] m) (S.look [] x) (S.look [] v)=some (ps,S')) (hps:∀ q∈ps,q):EOK M p0 w0 S' P o a w:=by
 have hmv:=aS hS (aL _) m;have hxv:=aS hS (aL _) x;have hvv:=aS hS (aL _) v;unfold eU at h;split at h <;> try cases h
 rename_i k kt e d kq n hk hm hx;obtain ⟨hu,hku⟩:=jf hk;rw [hm] at hmv;rw [hx] at hxv;obtain ⟨hxe,hn⟩:=ce hxv;split at h <;> try cases h
 rename_i k'' V l x0 c hZ;split at h <;> try cases h
 rename_i hkk;obtain ⟨rfl,rfl⟩:=hkk;split at h
 ·cases h
 split at h <;> simp only [pS,zn,reduceCtorEq] at h;rename_i hlf;obtain ⟨rfl,rfl⟩:=h;have hnx:n=x0:=hps _ (by simp);subst hnx;have hone:=tt hlf hvv;obtain ⟨g,es,clock,g1,g2,g3,⟨g4,g6⟩,g5⟩:=hS.lhs d _ hZ
 have hme:a.eval m=.map (some g):=by
  have h9:a.eval m=β d:=hmv;rw [h9,g1]
 obtain ⟨j,e0,q1,q2,q3,q4⟩:=qC hn l es.toList 0 g5 g4 g6;obtain ⟨hrun,hst'⟩:=xT (v:=a.eval v) hu hku g2 g3 (by simpa using q2) (by rw [q1]; simp) q3;have hset:=MapKept.heap_set (w:=w) (r:=g) (o':=.map (es.modify j fun e=>{ e with key:=.int k'' n,val:=a.eval v }) clock) g2
 have hturn:=hS.turn (d:=d) (e':=.mapo k'' V l n (S.look [] v)) (w':={ w with heap:=w.heap.setIfInBounds g (.map (es.modify j fun e=>{ e with key:=.int k'' n,val:=a.eval v }) clock) }) hZ rfl (by rw [g1]; rfl) rfl rfl rfl (by simp) (fun i hi=>hset.2 i hi)
  ⟨g,_,clock,g1,hset.1,hst',⟨g4,g6⟩,by
   have:=q4 (a.eval v) _ hone;have e9:(es.modify j fun e=>{ e with key:=.int k'' n,val:=a.eval v }).toList=es.toList.modify j fun e=>{ e with key:=.int k'' n,val:=a.eval v }:=by simp
   rw [e9];exact this⟩
 exact gR hd (s:=Instr.mapUpdate t (a.eval m) (a.eval x) (a.eval v)) (by rcases ho with ho | ho <;> simp only [execOp,ho]) (by rw [hme,hxe]; exact hrun) ⟨p,β,hturn⟩
theorem ua (hS:SatB M p0 w0 S a.tmps w p β) {o:Oper} {t:TypeId} {m x v:Operand} (hd:o.dst=none) (ho:o.op=.mapUpdate t m x v\/o.op=.insert t m x v) {ps:List Prop} {S':St}
  (h:lT P S t (S.look [] m) (S.look [] x) (S.look [] v)=some (ps,S')):EOK M p0 w0 S' P o a w:=by
 have hmv:=aS hS (aL _) m;have hxv:=aS hS (aL _) x;have hvv:=aS hS (aL _) v;unfold lT at h;split at h <;> try cases h
 rename_i k kt e d kq n hk hm hx;obtain ⟨hu,hku⟩:=jf hk;rw [hm] at hmv;rw [hx] at hxv;obtain ⟨hxe,hn⟩:=ce hxv;split at h <;> try cases h
 rename_i k'' V l hZ;split at h <;> try cases h
 rename_i hkk;obtain ⟨rfl,rfl⟩:=hkk;split at h
 ·cases h
 split at h <;> simp only [pS,zn,reduceCtorEq] at h;rename_i hlf;obtain ⟨rfl,rfl⟩:=h;have hone:=tt hlf hvv;obtain ⟨g,es,clock,g1,g2,g3,g4⟩:=hS.lhs d _ hZ
 have hme:a.eval m=.map (some g):=by
  have h9:a.eval m=β d:=hmv;rw [h9,g1]
 obtain ⟨es',clock'',hrun,hst',hm'⟩:=oJ (hh:=jb p β V (S.look [] v)) hu hku g2 g3 (oD l es.toList g4) hn (y:=none) hone;have hset:=MapKept.heap_set (w:=w) (r:=g) (o':=.map es' clock'') g2
 have hturn:=hS.turn (d:=d) (e':=.mapo k'' V (gp (l.map fun e=>(e.1,some e.2)) n none) n (S.look [] v)) (w':={ w with heap:=w.heap.setIfInBounds g (.map es' clock'') }) hZ rfl (by rw [g1]; rfl) rfl rfl rfl (by simp) (fun i hi=>hset.2 i hi)
  ⟨g,es',clock'',g1,hset.1,hst',⟨(rV n l).2,(rV n l).1⟩,hm'⟩
 exact gR hd (s:=Instr.mapUpdate t (a.eval m) (a.eval x) (a.eval v)) (by rcases ho with ho | ho <;> simp only [execOp,ho]) (by rw [hme,hxe]; exact hrun) ⟨p,β,hturn⟩
theorem t8 (hS:SatB M p0 w0 S a.tmps w p β) {o:Oper} {t:TypeId} {m x v:Operand} (hd:o.dst=none) (ho:o.op=.mapUpdate t m x v\/o.op=.insert t m x v) {ps:List Prop} {S':St}
  (h:g9 P S t (S.look [] m) (S.look [] x) (S.look [] v)=some (ps,S')):EOK M p0 w0 S' P o a w:=by
 have hmv:=aS hS (aL _) m;have hxv:=aS hS (aL _) x;have hvv:=aS hS (aL _) v;unfold g9 at h;split at h <;> try cases h
 rename_i k kt e d k' n hk hm hx;obtain ⟨hu,hku⟩:=jf hk;rw [hm] at hmv;rw [hx] at hxv;obtain ⟨hxe,hn⟩:=ce hxv;obtain ⟨p1,hle,hS1⟩:=bZ (S.look [] v).owns S p hS;have hvv:=AV.val_mono hle _ _ hvv;split at h <;> try cases h
 rename_i k'' V l hZ;split at h <;> try cases h
 rename_i hkk;obtain ⟨rfl,rfl⟩:=hkk;split at h
 ·cases h
 split at h <;> simp only [pS,zn,reduceCtorEq] at h;rename_i y hy;obtain ⟨rfl,rfl⟩:=h;have hyv:=cR hS1 (rows:=false) hy hvv;simp only [Qz,QW] at hyv;obtain ⟨g,es,clock,g1,g2,g3,g4⟩:=hS1.lhs d _ hZ
 have hme:a.eval m=.map (some g):=by
  have h9:a.eval m=β d:=hmv;rw [h9,g1]
 obtain ⟨es',clock',hrun,hst',hm'⟩:=oJ hu hku g2 g3 g4 hn (jU.2 hyv);have hset:=MapKept.heap_set (w:=w) (r:=g) (o':=.map es' clock') g2
 have hturn:=hS1.turn (d:=d) (e':=.mapp k'' V (gp l n y)) (w':={ w with heap:=w.heap.setIfInBounds g (.map es' clock') }) hZ rfl (by rw [g1]; rfl) rfl rfl rfl (by simp) (fun i hi=>hset.2 i hi)
  ⟨g,es',clock',g1,hset.1,hst',hm'⟩
 exact gR hd (s:=Instr.mapUpdate t (a.eval m) (a.eval x) (a.eval v)) (by rcases ho with ho | ho <;> simp only [execOp,ho]) (by rw [hme,hxe]; exact hrun) ⟨p1,β,hturn⟩
theorem nv {b:Bool} (hS:SatB M p0 w0 S a.tmps w p β) {o:Oper} {t:TypeId} {m x v:Operand} (hd:o.dst=none) (ho:o.op=.mapUpdate t m x v\/o.op=.insert t m x v) {ps:List Prop} {S':St}
  (h:gv b P S t (S.look [] m) (S.look [] x) (S.look [] v)=some (ps,S')) (hps:∀ q∈ps,q):EOK M p0 w0 S' P o a w:=by
 unfold gv at h;cases b with
 | true=>exact ua hS hd ho h
 | false =>
  simp only [QB] at h;split at h
  ·rename_i h1;injection h with h
   subst h;exact t7 hS hd ho h1 hps
  ·exact t8 hS hd ho h
theorem si (hS:SatB M p0 w0 S a.tmps w p β) {ss:Specs} (hss:ss.okA P M w0) {o:Oper} {ps:List Prop} {S':St} (h:Nw P ss S o=some (ps,S')) (hps:∀ q∈ps,q):EOK M p0 w0 S' P o a w:=by
 unfold Nw at h;split at h
 ·rename_i hd;split at h
  ·rename_i t ad v ho;exact x7 hS hd ho h hps
  ·rename_i t m x v ho;exact nv hS hd (.inl ho) h hps
  ·rename_i t m x v ho;exact nv hS hd (.inr ho) h hps
  ·rename_i args ts ho;split at h
   ·rename_i x t ha ht;have e1:args=#[x]:=by apply QZ.1; rw [ha]
    have e2:ts=#[t]:=by apply QZ.1; rw [ht]
    subst e1;subst e2;exact yc hS hd ho h hps
   ·cases h
  ·cases h
 ·rename_i d hd;split at h
  ·rename_i elem x ho;exact EK hS hd ho h
  ·rename_i elem ho;exact yf hS hd ho h
  ·rename_i f args ts ho;exact yb hS hss hd ho h hps
  ·rename_i args ts ho;split at h
   ·rename_i s x t t' ha ht;split at h
    ·rename_i htt;have htt:=CC htt;subst htt;have e1:args=#[s,x]:=by apply QZ.1; rw [ha]
     have e2:ts=#[t,t]:=by apply QZ.1; rw [ht]
     subst e1;subst e2;exact wQ hS hd ho h hps
    ·have e1:args=#[s,x]:=by apply QZ.1; rw [ha]
     have e2:ts=#[t,t']:=by apply QZ.1; rw [ht]
     subst e1;subst e2;exact pD hS hd ho h hps
   ·cases h
  ·rename_i args ts ho;split at h
   ·rename_i x y t t' ha ht;have e1:args=#[x,y]:=by apply QZ.1; rw [ha]
    have e2:ts=#[t,t']:=by apply QZ.1; rw [ht]
    subst e1;subst e2;exact BB hS hd ho h hps
   ·cases h
  ·rename_i t l c ho;split at h
   ·rename_i hlc;exact By hS hd ho hlc h hps
   ·cases h
  ·rename_i t len parts ho;exact pB hS hd ho h
  ·rename_i t x h' ho;exact EJ hS hd ho h hps
  ·rename_i src dst x ho;exact sj hS hd ho h
  ·rename_i t ho;exact ub hS hd ho h
  ·rename_i t x ho;exact x9 hS hd ho h
  ·rename_i x ho;split at h <;> simp only [pS,zn,reduceCtorEq] at h;rename_i hb;obtain ⟨rfl,rfl⟩:=h;have hv:=aS hS (aL _) x;exact EOK.of_run hd (by simp only [execOp,ho]; rfl) ⟨p,β,hS.set (QE hb) (fi (co _ _) hv)⟩
  ·cases h
end
end Go.Proofs.YtmfileeamnfpaaaGreatDoor
