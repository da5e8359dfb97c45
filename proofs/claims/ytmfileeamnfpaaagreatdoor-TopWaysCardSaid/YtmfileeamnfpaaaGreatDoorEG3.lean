
import Derived.Test.YtmfileeamnfpaaaGreatDoorEG2
import Derived.Maps.AppendAt
import Derived.Laws.BytesArg
import Derived.Laws.IdiomCopy
import Derived.Laws.CopyRow
import Derived.Lib.AppendZerosOnto
namespace Go.Proofs.YtmfileeamnfpaaaGreatDoor
open Go
def AV.owns:AV->List Nat
 | .own d=>[d]
 | .mp d=>[d]
 | .pair a b=>a.owns++b.owns
 | _=>[]
def St.freeze1 (S:St) (d:Nat):St :=
 match S.lh d with
 | some (.row _ T xs)=>if S.lock d then S else S.entry d (.froz T xs)
 | some (.mapp k V m)=>if S.lock d then S else S.entry d (.frozm k V m)
 | _=>S
def St.freeze (S:St) (ds:List Nat):St:=ds.foldl St.freeze1 S
section
variable {M:Nat->Prop} {p0:PH} {w0:World} {S:St} {tm:Array Value} {w:World} {p:PH} {β:Nat->Value} {P:Program}
theorem o6 (hS:SatB M p0 w0 S tm w p β) {d:Nat} {e:TypeId} {T:Ty} {xs:List T.den} (hd:S.lh d=some (.row e T xs)) :
  (xs=[]/\β d=.slice none 0 0)\/∃ (g cap:Nat) (cur:Array Value) (l:List Value),β d=.slice (some ⟨g,0,none⟩) xs.length cap/\w.heap[g]?=some (.cells cur e (0,0))/\xs.length<=cap/\aM (T.holds p) xs l /\
   (∀ (j:Nat) (u:Value),l[j]?=some u->cur[j]?=some u)/\xs.length * T.bytes<=aF:=by
 obtain ⟨l,h1,h2,h3⟩:=hS.lhs d _ hd;rcases h1.2 with ⟨e0,h0⟩ | ⟨g,cap,cur,e1,_,e2,e3,_,e4,e5⟩
 ·exact .inl ⟨PO h0,e0⟩
 ·refine .inr ⟨g,cap,cur,l,e1,e2,e3,h2,fun j u hu=>?_,h3⟩;rw [<- e5,List.getElem?_take] at hu;split at hu
  ·simpa using hu
  ·cases hu
theorem SatB.frozeMap (hS:SatB M p0 w0 S tm w p β) {d:Nat} {k:IntKind} {V:Ty} {m:List (Int×V.den)} (hd:S.lh d=some (.mapp k V m)) :
  ∃ p' g es clock,PH.le p p'/\β d=.map (some g)/\w.heap[g]?=some (.map es clock)/\jz es clock/\p' g=some (.map es clock)/\cq k (fun x v=>fv V (V.holds p' x) v) m es.toList/\SatB M p0 w0 (S.entry d (.frozm k V m)) tm w p' β:=by
 obtain ⟨g,es,clock,hb,hg,hst,hm⟩:=hS.lhs d _ hd;have hpg:p g=none:=(hS.owns d _ g hd rfl (by rw [hb]; rfl)).2
 have hle:PH.le p (fun b=>if b=g then some (.map es clock) else p b):=fun b cs h=>by
  by_cases e:b=g
  ·subst e; rw [hpg] at h; cases h
  ·simpa [e] using h
 have hS1:SatB M p0 w0 (S.entry d .dead) tm w p β:=hS.entry trivial (fun b h=>by cases h) (fun d' e' b _ h=>by cases h)
 have hS2:=hS1.more hle (fun b cs h=>by
  by_cases e:b=g
  ·subst e;simp only [if_true,Ps] at h;subst h;exact hg
  ·simp only [e,P5] at h;exact hS.agr b cs h) (fun b cs h=>by
  by_cases e:b=g
  ·subst e;exact .inr ((hS.owns d _ b hd rfl (by rw [hb]; rfl)).1.symm)
  ·simp only [e,P5] at h;exact .inl h) (fun d' e' b hd' hl' hb'=>by
  have hne:d'≠d:=by
   intro e;subst e;simp only [St.entry,eu,PZ,Ps] at hd';subst hd';cases hl'
  simp only [St.entry,cg hne,PF] at hd';have h1:=(hS.owns d' e' b hd' hl' hb').2;by_cases e:b=g
  ·subst e;exact absurd (hS.inj d' d e' _ b hd' hl' hd rfl hb' (by rw [hb]; rfl)) hne
  ·simpa [e] using h1)
 have hS3:=hS2.entry (d:=d) (e:=.frozm k V m) (.inr ⟨g,es,clock,by rw [hb],by simp,cf (fun x _=>dH (fun cs=>Ty.holds_mono hle V x cs)) _ _ hm⟩) (fun b h=>by cases h) (fun d' e' b _ h=>by cases h)
 have e2:(S.entry d .dead).entry d (.frozm k V m)=S.entry d (.frozm k V m):=by
  unfold St.entry;simp only [St.mk.injEq,Ro,RB];funext x;cases Nat.beq x d <;> rfl
 rw [e2] at hS3;exact ⟨_,g,es,clock,hle,hb,hg,hst,by simp,cf (fun x _=>dH (fun cs=>Ty.holds_mono hle V x cs)) _ _ hm,hS3⟩
theorem wE (hS:SatB M p0 w0 S tm w p β) (d:Nat):∃ p',PH.le p p'/\SatB M p0 w0 (S.freeze1 d) tm w p' β:=by
 unfold St.freeze1;split
 ·rename_i e T xs hd;split
  ·exact ⟨p,PH.le.refl p,hS⟩
  ·rcases o6 hS hd with ⟨rfl,hb⟩ | ⟨g,cap,cur,l,hb,hg,hc,hr,hl,hbig⟩
   ·refine ⟨p,PH.le.refl p,hS.entry (d:=d) (e:=.froz T []) ?_ (fun b h=>by cases h) (fun d' e' b _ h=>by cases h)⟩;exact ⟨none,0,[],by rw [hb]; rfl,by simp,by simp,rfl,fun h=>absurd rfl h⟩
   ·have hpg:p g=none:=(hS.owns d _ g hd rfl (by rw [hb]; rfl)).2;refine ⟨fun b=>if b=g then some (.cells cur) else p b,fun b cs h=>?_,?_⟩
    ·by_cases e:b=g
     ·subst e; rw [hpg] at h; cases h
     ·simpa [e] using h
    ·have hle:PH.le p (fun b=>if b=g then some (.cells cur) else p b):=fun b cs h=>by
      by_cases e:b=g
      ·subst e; rw [hpg] at h; cases h
      ·simpa [e] using h
     have hS1:SatB M p0 w0 (S.entry d .dead) tm w p β:=hS.entry trivial (fun b h=>by cases h) (fun d' e' b _ h=>by cases h)
     have hS2:=hS1.more hle (fun b cs h=>by
      by_cases e:b=g
      ·subst e;simp only [if_true,Ps] at h;subst h;exact ⟨_,_,hg⟩
      ·simp only [e,P5] at h;exact hS.agr b cs h) (fun b cs h=>by
      by_cases e:b=g
      ·subst e;exact .inr ((hS.owns d _ b hd rfl (by rw [hb]; rfl)).1.symm)
      ·simp only [e,P5] at h;exact .inl h) (fun d' e' b hd' hl' hb'=>by
      have hne:d'≠d:=by
       intro e;subst e;simp only [St.entry,eu,PZ,Ps] at hd';subst hd';cases hl'
      simp only [St.entry,cg hne,PF] at hd';have h1:=(hS.owns d' e' b hd' hl' hb').2;by_cases e:b=g
      ·subst e;exact absurd (hS.inj d' d e' _ b hd' hl' hd rfl hb' (by rw [hb]; rfl)) hne
      ·simpa [e] using h1)
     have hS3:=hS2.entry (d:=d) (e:=.froz T xs) ⟨_,cap,l,by rw [hb],hc,hbig,dx (fun x cs h=>Ty.holds_mono hle T x cs h) _ _ hr,fun _=>⟨g,0,rfl,fun j u hu=>by
      simp only [PH.cell,if_true,Rh,Qg,Blk.get];exact hl j u hu⟩⟩ (fun b h=>by cases h) (fun d' e' b _ h=>by cases h)
     have e2:(S.entry d .dead).entry d (.froz T xs)=S.entry d (.froz T xs):=by
      unfold St.entry;simp only [St.mk.injEq,Ro,RB];funext x;cases Nat.beq x d <;> rfl
     rwa [e2] at hS3
 ·rename_i k V m hd;split
  ·exact ⟨p,PH.le.refl p,hS⟩
  ·obtain ⟨p',_,_,_,h1,_,_,_,_,_,h2⟩:=hS.frozeMap hd;exact ⟨p',h1,h2⟩
 ·exact ⟨p,PH.le.refl p,hS⟩
theorem bX:∀ (ds:List Nat) (S:St) (p:PH),SatB M p0 w0 S tm w p β->∃ p',PH.le p p'/\SatB M p0 w0 (S.freeze ds) tm w p' β
 | [],S,p,hS=>⟨p,PH.le.refl p,hS⟩
 | d::ds,S,p,hS=>by
  obtain ⟨p1,h1,h2⟩:=wE hS d;obtain ⟨p2,h3,h4⟩:=bX ds (S.freeze1 d) p1 h2;exact ⟨p2,h1.trans h3,h4⟩
theorem Dl (S:St) (d:Nat):(S.freeze1 d).env=S.env/\(S.freeze1 d).n=S.n/\(S.freeze1 d).lock=S.lock:=by
 unfold St.freeze1;split
 ·split <;> exact ⟨rfl,rfl,rfl⟩
 ·split <;> exact ⟨rfl,rfl,rfl⟩
 ·exact ⟨rfl,rfl,rfl⟩
theorem cN:∀ (ds:List Nat) (S:St),(S.freeze ds).env=S.env/\(S.freeze ds).n=S.n/\(S.freeze ds).lock=S.lock
 | [],S=>⟨rfl,rfl,rfl⟩
 | d::ds,S=>by
  have h1:=Dl S d;have h2:=cN ds (S.freeze1 d);exact ⟨h2.1.trans h1.1,h2.2.1.trans h1.2.1,h2.2.2.trans h1.2.2⟩
theorem FM (ds:List Nat) (S:St) (x:Operand):(S.freeze ds).val x=S.val x:=by
 unfold St.val;cases x <;> simp only [(cN ds S).1]
theorem SatB.alloc (hS:SatB M p0 w0 S tm w p β) (o:Obj):SatB M p0 w0 S tm (w.alloc o) p β :=
 hS.grow rfl rfl rfl (by simp) (fun b hb=>by show (w.heap.push o)[b]?=w.heap[b]?; rw [Array.getElem?_push,if_neg (Nat.ne_of_lt hb)])
theorem SatB.drew (hS:SatB M p0 w0 S tm w p β):SatB M p0 w0 S tm w.drew p β :=
 hS.grow rfl rfl rfl (PP _) (fun _ _=>rfl)
theorem SatB.newObj (hS:SatB M p0 w0 S tm w p β) {o:Obj} {d:Nat} {e:LE} {v:Value} (hv:b8 v=some w.heap.size)
  (hs:e.sat p (fun x=>if x=d then v else β x) (w.alloc o) d):SatB M p0 w0 (S.fresh d e) tm (w.alloc o) p (fun x=>if x=d then v else β x):=by
 refine (hS.alloc _).fresh hs (fun b _ hb=>?_) (fun d' e' b _ _ hd hl hb hb'=>?_)
 ·rw [hv] at hb;injection hb with hb
  subst hb;refine ⟨.inr hS.keep.size,?_⟩;cases hp:p w.heap.size with
  | none=>rfl
  | some c=>have:=hS.agr.lt hp; omega
 ·rw [hv] at hb;injection hb with hb
  subst hb;have:=LE.sat_lt d' e' hl (hS.lhs d' e' hd) hb';omega
theorem SatB.newEntry (hS:SatB M p0 w0 S tm w p β) {cs:Array Value} {t:TypeId} {d:Nat} {e:LE} {v:Value} (hv:b8 v=some w.heap.size)
  (hs:e.sat p (fun x=>if x=d then v else β x) (w.alloc (.cells cs t)) d):SatB M p0 w0 (S.fresh d e) tm (w.alloc (.cells cs t)) p (fun x=>if x=d then v else β x):=hS.newObj hv hs
theorem SatB.turn (hS:SatB M p0 w0 S tm w p β) {d:Nat} {e e':LE} {b:Nat} {w':World} (hd:S.lh d=some e) (hl:e.live=true) (hb:b8 (β d)=some b)
  (ho:w'.os=w.os) (ht:w'.tape=w.tape) (hp:w'.output=w.output) (hz:w'.heap.size=w.heap.size) (hblk:∀ i,i≠b->w'.heap[i]?=w.heap[i]?) (hs:e'.sat p β w' d) :
  SatB M p0 w0 (S.entry d e') tm w' p β:=by
 obtain ⟨hM,hpb⟩:=hS.owns d e b hd hl hb;have h1:SatB M p0 w0 (S.entry d .dead) tm w p β:=hS.entry trivial (fun b h=>by cases h) (fun d' e' b _ h=>by cases h)
 have h2:SatB M p0 w0 (S.entry d .dead) tm w' p β:=by
  refine ⟨h1.keep.trans_grow ho ht hp (by omega) (fun i _ hm hi=>hblk i (fun e=>?_)),fun i cs hi=>?_,h1.old,h1.size,fun d' e'' hd'=>?_,h1.owns,h1.inj,h1.env⟩
  ·subst e;rcases hM with h | h
   ·exact hm h
   ·omega
  ·rw [hblk i (fun e2=>by subst e2; rw [hpb] at hi; cases hi)];exact h1.agr i cs hi
  ·refine LE.sat_world d' e'' (h1.lhs d' e'' hd') (fun b' hl' hb'=>hblk b' (fun e2=>?_));subst e2
   have hne:d'≠d:=by
    intro e3;subst e3;simp only [St.entry,eu,PZ,Ps] at hd';subst hd';cases hl'
   simp only [St.entry,cg hne,PF] at hd';exact hne (hS.inj d' d e'' e b' hd' hl' hd hl hb' hb)
 have h3:=h2.entry (d:=d) (e:=e') hs (fun b' _ hb'=>by rw [hb] at hb'; injection hb' with hb'; subst hb'; exact ⟨hM,hpb⟩) (fun d' e'' b' hne _ hd' hl' hb' hb''=>by
  simp only [St.entry,cg hne,PF] at hd';rw [hb] at hb';injection hb' with hb'
  subst hb';exact hne (hS.inj d' d e'' e b hd' hl' hd hl hb'' hb))
 have e2:(S.entry d .dead).entry d e'=S.entry d e':=by
  unfold St.entry;simp only [St.mk.injEq,Ro,RB];funext x;cases Nat.beq x d <;> rfl
 rwa [e2] at h3
theorem cd (w:World) (b:Nat) (cs:Array Value) {cur:Array Value} {t:TypeId} {fz:Nat×Nat} (h:w.heap[b]?=some (.cells cur t fz)) :
  (w.setRow b cs).heap[b]?=some (.cells cs t fz)/\(w.setRow b cs).os=w.os/\(w.setRow b cs).tape=w.tape/\(w.setRow b cs).output=w.output/\(w.setRow b cs).heap.size=w.heap.size /\
   ∀ i,i≠b->(w.setRow b cs).heap[i]?=w.heap[i]?:=by
 refine ⟨?_,rfl,rfl,rfl,by simp [World.setRow],fun i hi=>?_⟩
 ·simp [World.setRow,Array.getElem?_modify,h]
 ·simp [World.setRow,Array.getElem?_modify,Ne.symm hi]
theorem mo {t:TypeId} {n:Nat} (hn:cellsIn P t=some n) {b o:Nat} {cur:Array Value} {e:TypeId} (hg:w.heap[b]?=some (.cells cur e (0,0))) {v:Value} (hv:v.cells.size=n)
  (h1:∀ u∈v.cells.toList,u.oneCell'=true) (hfit:o+n<=cur.size) :
  (Instr.storeAt t (.pointer (some ⟨b,o,none⟩)) v).run P w=.ok () (w.setRow b (cur.toList.take o++v.cells.toList++cur.toList.drop (o+n)).toArray):=by
 obtain ⟨i,hi,hs⟩:=AH hn;have:=run_storeCells_at P b o e v.cells.toList 0 cur w hg (by simp; omega) h1;simp only [QU] at this;have hl:v.cells.toList.length=n:=by simpa using hv
 rw [hl] at this;simp only [Instr.storeAt,Instr.sureAddr,storeVar,sizeOf,typeInfo,PR,P2,PL,Rd,hi,hs,hv];simp only [ne_eq,not_true,P5];exact this
theorem r7 {a:AV} {v:Value} (hS:SatB M p0 w0 S tm w p β) (h:a.one p β v) (hok:jc S.lh a=true):v.oneCell'=true:=by
 cases a <;> (first | (cases hok; done) | skip)
 ·rw [h.1]; rfl
 ·have h':v=.bool _:=h; rw [h']; rfl
 ·rw [h.1]; rfl
 ·have h':v=.slice none 0 0:=h; rw [h']; rfl
 ·obtain ⟨A,c,e,_⟩:=ql (p:=p) h;rw [e]; rfl
 ·rename_i d;have h':v=β d:=h;simp only [jc] at hok;split at hok
  ·rename_i hd;obtain ⟨A,c,e,_⟩:=zD hS hd;rw [h',e]; rfl
  ·rename_i hd;obtain ⟨A,c,e,_⟩:=ql (hS.lhs _ _ hd);rw [h',e]; rfl
  ·cases hok
 ·exact h.elim
 ·obtain ⟨b,_,e⟩:=h; rw [e]; rfl
 ·obtain ⟨b,o,es,e,_⟩:=h; rw [e]; rfl
 ·obtain ⟨v1,v2,e,_⟩:=h; rw [e]; rfl
 ·rename_i d;have h':v=β d:=h;simp only [jc] at hok;split at hok
  ·rename_i hd;obtain ⟨r,es,clock,e,_⟩:=hS.lhs d _ hd;rw [h',e]; rfl
  ·rename_i hd;rcases hS.lhs d _ hd with ⟨e,_⟩ | ⟨_,_,_,e,_⟩ <;> (injection e with e _; rw [h',e]; rfl)
  ·cases hok
 ·have h':(Ty.map _ _).holds p _ [v]:=h;rcases h' with ⟨e,_⟩ | ⟨_,_,_,e,_⟩ <;> (injection e with e _; rw [e]; rfl)
 ·have h':v=.map none:=h; rw [h']; rfl
 ·have h':v=.nilFunc:=h; rw [h']; rfl
def DV (lh:Nat->Option LE):AV->Bool
 | .pair a b=>(match a with | .pair ..=>false | _=>true)&&jc lh a&&DV lh b
 | a=>jc lh a
theorem kT (hS:SatB M p0 w0 S tm w p β):∀ (a:AV) (cs:List Value),a.cells p β cs->DV S.lh a=true->∀ u∈cs,u.oneCell'=true:=by
 intro a
 induction a with
 | pair x y _ ih =>
  intro cs hc hok u hu
  match cs,hc with
  | v::cs,hc =>
   simp only [DV,Px] at hok;rcases PD.1 hu with rfl | hu
   ·exact r7 hS hc.1 hok.1.2
   ·exact ih cs hc.2 hok.2 u hu
 | _ =>
  intro cs hc hok u hu;obtain ⟨v,rfl,hv⟩:=(AV.cells_leaf _ (by intro x y e; cases e) cs).1 hc;simp only [PB] at hu;subst hu;exact r7 hS hv hok
theorem fD {α:Type} {h:α->List Value->Prop} {k:Value->Prop} (hk:∀ x cs,h x cs->∀ u∈cs,k u):∀ (xs:List α) (cs:List Value),aM h xs cs->∀ u∈cs,k u
 | [],cs,hr=>by simp only [aM] at hr; subst hr; simp
 | x::xs,cs,⟨c1,c2,e,h1,h2⟩=>by
  subst e;intro u hu;rcases PI.1 hu with hu | hu
  ·exact hk _ _ h1 u hu
  ·exact fD hk xs _ h2 u hu
theorem dA:∀ (T:Ty) (x:T.den) (cs:List Value),T.holds p x cs->∀ u∈cs,u.oneCell'=true
 | .int _,_,_,h=>by rw [h.1]; intro u hu; simp only [PB] at hu; subst hu; rfl
 | .bool,_,_,h=>by simp only [Ty.holds] at h; rw [h]; intro u hu; simp only [PB] at hu; subst hu; rfl
 | .str,_,_,h=>by rw [h.1]; intro u hu; simp only [PB] at hu; subst hu; rfl
 | .arr _,_,_,⟨_,_,_,e,_⟩=>by rw [e]; intro u hu; simp only [PB] at hu; subst hu; rfl
 | .nil,_,_,h=>by simp only [Ty.holds] at h; rw [h]; intro u hu; simp only [PB] at hu; subst hu; rfl
 | .ref _,_,_,⟨_,_,_,e,_⟩=>by rw [e]; intro u hu; simp only [PB] at hu; subst hu; rfl
 | .fn _ _,_,_,⟨_,_,_,e,_⟩=>by rw [e]; intro u hu; simp only [PB] at hu; subst hu; rfl
 | .map _ _,_,_,.inl ⟨e,_⟩=>by rw [e]; intro u hu; simp only [PB] at hu; subst hu; rfl
 | .map _ _,_,_,.inr ⟨_,_,_,e,_⟩=>by rw [e]; intro u hu; simp only [PB] at hu; subst hu; rfl
 | .pair A B,_,_,⟨c1,c2,e,h1,h2⟩=>by
  rw [e];intro u hu;rcases PI.1 hu with hu | hu
  ·exact dA A _ _ h1 u hu
  ·exact dA B _ _ h2 u hu
end
def AV.asRow (lh:Nat->Option LE):AV->Option ((T:Ty)×List T.den)
 | .sl T xs=>some ⟨T,xs⟩
 | .own d=>match lh d with
  | some (.row _ T xs)=>some ⟨T,xs⟩
  | some (.froz T xs)=>some ⟨T,xs⟩
  | _=>none
 | _=>none
def AV.asRowP (lh:Nat->Option LE) (a:AV):Option (List Prop×((T:Ty)×List T.den)) :=
 match a with
 | .osl d T i n=>match lh d with
  | some (.row _ T' xs)=>if T'=T then some ([i+n<=xs.length],⟨T',(xs.drop i).take n⟩) else none
  | _=>none
 | a=>match a.asRow lh with
  | some r=>some ([],r)
  | none=>none
def fm (P:Program) (e:TypeId) (T:Ty):Bool :=
 match P.info? e with
 | some i=>Nat.beq i.size T.size&&Nat.ble i.bytes T.bytes&&(match i.zero with | some z=>Nat.beq z.cells.toList.length T.size | none=>false)
 | none=>false
def eJ (P:Program) (t:TypeId):Option TypeId :=
 match P.underlying t with
 | some (.slice e)=>some e
 | _=>none
def lC:Operand->Operand->Bool
 | .tmp a,.tmp b=>Nat.beq a b
 | .const (.int j a),.const (.int k b)=>(j == k)&&(a == b)
 | _,_=>false
def fF (lh:Nat->Option LE) (T:Ty) (ρ:Operand->AV):Nat->List (Nat×Operand)->Option (List T.den)
 | _,[]=>some []
 | k,(i,x)::rest=>if Nat.beq i k then match (ρ x).toTy false lh T,fF lh T ρ (k+1) rest with
   | some y,some ys=>some (y::ys)
   | _,_=>none
  else none
def kw (S:St) (d:Nat):Nat->List RT->Bool
 | _,[]=>true
 | k,.dat _::Rs=>kw S d (k+1) Rs
 | k,.own _ _::Rs=>!S.lock (bv d k)&&kw S d (k+1) Rs
 | k,.map _ _::Rs=>!S.lock (bv d k)&&kw S d (k+1) Rs
def Ha (S:St) (d:Nat) (c:AV):Option (List Prop×St) :=
 if jc S.lh c&&Nat.blt d S.n&&!S.lock d then some ([],(S.fresh d (.cells (c.scrub (fun x=>Nat.beq x d)))).set d (.loc d 0)) else none
def lS (P:Program) (S:St) (d:Nat) (elem:TypeId):Option (List Prop×St) :=
 match P.info? elem with
 | some i=>match i.zero with
  | some z=>if Nat.blt 0 z.cells.toList.length&&Nat.blt d S.n&&!S.lock d then some ([],(S.fresh d (.cells (AV.ofCells z.cells.toList))).set d (.loc d 0)) else none
  | none=>none
 | none=>none
def kE (P:Program) (S:St) (t:TypeId) (ad v:AV):Option (List Prop×St) :=
 match cellsIn P t with
 | none=>none
 | some n=>if Nat.beq n 0 then none else match ad with
  | .loc d off=>match S.lh d with
   | some (.cells c)=>if !S.lock d&&Nat.beq v.len n&&Nat.ble (off+n) c.len&&jc S.lh v&&DV S.lh v then some ([],S.entry d (.cells (AV.put off v n c))) else none
   | _=>none
  | .el d T i off=>match (S.freeze v.owns).lh d with
   | some (.row e T' xs)=>if h:T'=T then
     (if !S.lock d&&Nat.beq v.len n&&Nat.ble (off+n) T.size&&jc S.lh v&&DV S.lh v then
      match AV.toTy false (S.freeze v.owns).lh T (AV.put off v n (T.av ((h ▸ xs).getD i T.dflt))) with
      | some y=>some ([i<xs.length],(S.freeze v.owns).entry d (.row e T ((h ▸ xs).set i y)))
      | none=>none
     else none) else none
   | some (.cells c)=>match c.putI T i v with
    | some (N,c')=>if !S.lock d&&Nat.beq n 1&&Nat.beq off 0 then some ([i<N],(S.freeze v.owns).entry d (.cells c')) else none
    | none=>none
   | _=>none
  | _=>none
def fL (ss:Specs) (S:St) (f:FuncId) (args:List Operand):St :=
 match ss f with
 | some s=>if s.al then S.freeze ((args.map (S.look [])).flatMap AV.owns) else S
 | none=>S
def AV.rowOf (lh:Nat->Option LE) (e:TypeId) (T:Ty):AV->Option (Nat×List T.den)
 | .own n=>match lh n with
  | some (.row e' T' xs)=>if h:T'=T then (if Nat.beq e' e then some (n,h ▸ xs) else none) else none
  | _=>none
 | _=>none
def zf (lh:Nat->Option LE) (r:RowFn) (n:Nat) (rest:List AV):Option (List r.T.den) :=
 match r.tail,rest.getLast? with
 | false,_=>some []
 | true,some b=>match b.rowOf lh r.e r.T with
  | some (m,ys)=>if Nat.beq m n then none else some ys
  | none=>none
 | true,none=>none
def RowFn.mid {α:Type} (r:RowFn) (rest:List α):List α:=bif r.tail then rest.dropLast else rest
def jC (S:St) (d:Nat) (r:RowFn) (a:AV) (rest:List AV):Option (List Prop×St) :=
 match a.rowOf (S.freeze ((r.mid rest).flatMap AV.owns)).lh r.e r.T with
 | some (n,xs)=>match zf (S.freeze ((r.mid rest).flatMap AV.owns)).lh r n rest,Kc false (S.freeze ((r.mid rest).flatMap AV.owns)).lh r.Ts (r.mid rest) with
  | some ys,some x=>if !S.lock n&&!S.lock d&&Nat.blt d S.n then
      some ([r.pre xs ys x],bif r.out then (((S.freeze ((r.mid rest).flatMap AV.owns)).entry n .dead).fresh d (.row r.e r.T (r.F xs ys x))).set d (.own d)
       else ((S.freeze ((r.mid rest).flatMap AV.owns)).entry n (.row r.e r.T (r.F xs ys x))).set d .tnil) else none
  | _,_=>none
 | none=>none
def dj (S:St) (n:Nat):List Nat:=match S.lh n with
 | some (.cells c)=>c.owns
 | _=>[]
def jD (S:St) (d:Nat) (r:BoxFn) (a:AV) (rest:List AV):Option (List Prop×St) :=
 match a with
 | .loc n 0=>match (S.freeze (dj S n++rest.flatMap AV.owns)).lh n with
  | some (.cells c)=>match c.toTy false (S.freeze (dj S n++rest.flatMap AV.owns)).lh r.T,Kc false (S.freeze (dj S n++rest.flatMap AV.owns)).lh r.Ts rest with
   | some x,some y=>if !S.lock n&&Nat.blt d S.n then
     some ([r.pre x y],(lf d 0 r.Rs (r.F x y).1 ((S.freeze (dj S n++rest.flatMap AV.owns)).entry n (.cells (r.T.av (r.F x y).2)))).set d (GC d r.Rs (r.F x y).1)) else none
   | _,_=>none
  | _=>none
 | _=>none
def lP (P:Program) (ss:Specs) (S:St) (d:Nat) (f:FuncId) (args:List Operand):Option (List Prop×St) :=
 match ss.row f with
 | some (.row r)=>match args with
  | []=>none
  | a::rest=>if cT P f then jC S d r (S.look [] a) (rest.map (S.look [])) else none
 | some (.box r)=>match args with
  | []=>none
  | a::rest=>if cT P f then jD S d r (S.look [] a) (rest.map (S.look [])) else none
 | none=>match mX P ss (fL ss S f args).lh f (args.map ((fL ss S f args).look [])) with
  | some (q,⟨Rs,x⟩)=>if Nat.blt d S.n&&kw S d 0 Rs then some ([q],(lf d 0 Rs x (fL ss S f args)).set d (GC d Rs x)) else none
  | none=>none
def Lc (d:Nat):AV->Bool
 | .own d2=>!Nat.beq d d2
 | _=>true
def jU (P:Program) (S:St) (d:Nat) (t:TypeId) (s x:AV):Option (List Prop×St) :=
 match eJ P t with
 | none=>none
 | some e=>match x.asRow S.lh with
  | none=>none
  | some ⟨T,ys⟩=>if fm P e T&&Nat.blt d S.n&&!S.lock d then match s with
   | .nils=>some ([ys.length * T.bytes<=aF],(S.fresh d (.row e T ys)).set d (.own d))
   | .own d1=>match S.lh d1 with
    | some (.row e' T' xs)=>if h:T'=T then
      (if Nat.beq e' e&&!S.lock d1&&Lc d1 x then some ([(xs.length+ys.length) * T.bytes<=aF],((S.entry d1 .dead).fresh d (.row e T ((h ▸ xs)++ys))).set d (.own d)) else none)
     else none
    | _=>none
   | _=>none
  else none
def oF (P:Program) (S:St) (d:Nat) (t:TypeId) (l:AV):Option (List Prop×St) :=
 match eJ P t with
 | none=>none
 | some e=>match wc P 12 e with
  | none=>none
  | some T=>match P.info? e with
   | none=>none
   | some i=>match i.zero with
    | none=>none
    | some z=>match AV.toTy false (fun _=>none) T (AV.ofCells z.cells.toList),l with
     | some y,.int _ n=>if fm P e T&&Nat.blt d S.n&&!S.lock d then some ([0<=n,n.toNat * T.bytes<=aF],(S.fresh d (.row e T (List.replicate n.toNat y))).set d (.own d)) else none
     | _,_=>none
def zK (ρ:Operand->AV):Nat->List (Nat×Operand)->Option AV
 | _,[]=>none
 | k,(i,x)::rest=>match ρ x with
  | .loc n off=>if Nat.beq i k then (match rest with
   | []=>some (.loc n off)
   | _::_=>match zK ρ (k+1) rest with
    | some c=>some (.pair (.loc n off) c)
    | none=>none) else none
  | _=>none
def kG (P:Program) (S:St) (d:Nat) (t:TypeId) (len:Nat) (parts:List (Nat×Operand)):Option (List Prop×St) :=
 match eJ P t with
 | none=>none
 | some e=>match P.info? e with
  | none=>none
  | some i=>match i.zero,zK (S.look []) 0 parts with
   | some z,some c=>if Nat.beq i.size 1&&Nat.beq z.cells.toList.length 1&&Nat.beq parts.length len&&Nat.ble len 1000&&Nat.blt d S.n&&!S.lock d then
     some ([],(S.fresh d (.cells (c.scrub (fun x=>Nat.beq x d)))).set d (.psl d 0 len)) else none
   | _,_=>none
def lR (P:Program) (S:St) (d:Nat) (t:TypeId) (len:Nat) (parts:List (Nat×Operand)):Option (List Prop×St) :=
 match eJ P t with
 | none=>none
 | some e=>match wc P 12 e with
  | none=>none
  | some T =>
   let S1:=S.freeze ((parts.map (fun x=>S.look [] x.2)).flatMap AV.owns)
   match fF S1.lh T (S1.look []) 0 parts with
   | none=>none
   | some ys=>if fm P e T&&Nat.blt d S.n&&!S.lock d&&Nat.beq parts.length len&&Nat.ble (len * T.size) 16777216&&Nat.ble (len * T.bytes) aF then some ([],(S1.fresh d (.row e T ys)).set d (.own d)) else none
def jx (P:Program) (S:St) (d:Nat) (t:TypeId) (len:Nat) (parts:List (Nat×Operand)):Option (List Prop×St) :=
 match lR P S d t len parts with
 | some r=>some r
 | none=>kG P S d t len parts
def AV.span (lh:Nat->Option LE):AV->Option (Nat×Nat×Nat)
 | .osl d _ i n=>some (d,i,n)
 | .own d=>match lh d with
  | some (.row _ _ xs)=>some (d,0,xs.length)
  | _=>none
 | _=>none
def NX (T:Ty):AV->Bool
 | .osl _ T' _ _=>decide (T'=T)
 | _=>true
def oI (P:Program) (S:St) (r:Nat) (t:TypeId) (x y:AV):Option (List Prop×St) :=
 match x.span S.lh,y.asRowP S.lh with
 | some (d,i,n),some (qs,⟨T',ys⟩)=>match S.lh d with
  | some (.row e T xs)=>if h:T'=T then
    (if NX T x&&gG P t T&&Nat.beq T.size 1&&!S.lock d&&Lc d y&&Nat.blt r S.n then
     some (qs++[i+n<=xs.length],(S.entry d (.row e T (xs.take i++((h ▸ ys).take (min ys.length n)++xs.drop (i+min ys.length n))))).set r (.int .i64 ((min ys.length n:Nat):Int)))
    else none) else none
  | _=>none
 | _,_=>none
def s8 (P:Program) (S:St) (t:TypeId) (x:AV):Option (List Prop×St) :=
 match x with
 | .osl d T i n=>match S.lh d with
  | some (.row e T' xs)=>if h:T'=T then match eJ P t with
   | none=>none
   | some e'=>match P.info? e' with
    | none=>none
    | some inf=>match inf.zero with
     | none=>none
     | some z=>match AV.toTy false (fun _=>none) T (AV.ofCells z.cells.toList) with
      | none=>none
      | some y=>if !S.lock d&&Nat.beq inf.size T.size then some ([i+n<=xs.length],S.entry d (.row e T ((h ▸ xs).take i++(List.replicate n y++(h ▸ xs).drop (i+n))))) else none
   else none
  | _=>none
 | _=>none
def iH (xs:List Int):List UInt8:=xs.map fun n=>UInt8.ofNat n.toNat
def ta (lh:Nat->Option LE) (a:AV):Option (List Int) :=
 match a with
 | .nils=>some []
 | a=>match a.asRow lh with
  | some ⟨.int .u8,xs⟩=>some xs
  | _=>none
def lQ (P:Program) (S:St) (d:Nat) (src dst:TypeId) (a:AV):Option (List Prop×St) :=
 match P.underlying src,P.underlying dst with
 | some (.slice e),some .string=>match P.underlying e with
  | some (.int .u8)=>match ta S.lh a with
   | some xs=>if Nat.blt d S.n then some ([],S.set d (.str (iH xs))) else none
   | none=>none
  | _=>none
 | _,_=>none
def fc (P:Program) (S:St) (d:Nat) (t t':TypeId) (s x:AV):Option (List Prop×St) :=
 match eJ P t,P.underlying t' with
 | some e,some (.int _)=>match wc P 12 e with
  | none=>none
  | some T=>match P.info? e with
   | none=>none
   | some i=>match i.zero with
    | none=>none
    | some z=>match AV.toTy false (fun _=>none) T (AV.ofCells z.cells.toList),s,x with
     | some y,.nils,.int _ n=>if fm P e T&&Nat.blt d S.n&&!S.lock d then some ([0<n,n.toNat * T.bytes<=aF],(S.fresh d (.row e T (List.replicate n.toNat y))).set d (.own d)) else none
     | _,_,_=>none
 | _,_=>none
def vf (P:Program) (S:St) (r:Nat) (t:TypeId) (x h:AV):Option (List Prop×St) :=
 match x,h with
 | .own d,.int _ b=>match S.lh d with
  | some (.row e T xs)=>if gG P t T&&!S.lock d&&Nat.blt r S.n&&!S.lock r then
    some ([0<=b,b<=(xs.length:Int)],((S.entry d .dead).fresh r (.row e T (xs.take b.toNat))).set r (.own r)) else none
  | _=>none
 | _,_=>none
def np (P:Program) (S:St) (d:Nat) (t:TypeId):Option (List Prop×St) :=
 match wc P 12 t with
 | some (.map k V)=>if Nat.blt d S.n&&!S.lock d then some ([],(S.fresh d (.mapp k V [])).set d (.mp d)) else none
 | _=>none
def s6 (P:Program) (S:St) (d:Nat) (t:TypeId) (x:AV):Option (List Prop×St) :=
 match P.underlying t,x with
 | some (.map _ _),.mp m=>match S.lh m with
  | some (.mapp k V l)=>if Nat.blt d S.n&&!S.lock d&&!S.lock m then some ([],((S.entry m (.frozm k V l)).fresh d (.iter k V l none)).set d (.loc d 0)) else none
  | _=>none
 | _,_=>none
def gY (P:Program) (S:St) (t:TypeId) (m x v:AV):Option (List Prop×St) :=
 match oo P t,m,x with
 | some (k,_,_),.mp d,.int k' n=>match (S.freeze v.owns).lh d with
  | some (.mapp k'' V l)=>if k'=k/\k''=k then (if S.lock d then none else match AV.toTy false (S.freeze v.owns).lh V v with
    | some y=>some ([],(S.freeze v.owns).entry d (.mapp k'' V (cR l n y)))
    | none=>none) else none
  | _=>none
 | _,_,_=>none
def AV.leafB:AV->Bool
 | .own _=>true
 | .nils=>true
 | _=>false
def eQ (P:Program) (S:St) (t:TypeId) (m x v:AV):Option (List Prop×St) :=
 match oo P t,m,x with
 | some (k,_,_),.mp d,.int k' n=>match S.lh d with
  | some (.mapo k'' V l x0 _)=>if k'=k/\k''=k then (if S.lock d then none else if v.leafB then some ([n=x0],S.entry d (.mapo k'' V l x0 v)) else none) else none
  | _=>none
 | _,_,_=>none
def lr (P:Program) (S:St) (t:TypeId) (m x v:AV):Option (List Prop×St) :=
 match oo P t,m,x with
 | some (k,_,_),.mp d,.int k' n=>match S.lh d with
  | some (.mapp k'' V l)=>if k'=k/\k''=k then (if S.lock d then none else if v.leafB then some ([],S.entry d (.mapo k'' V (cR (l.map fun e=>(e.1,some e.2)) n none) n v)) else none) else none
  | _=>none
 | _,_,_=>none
def gq (o:Bool) (P:Program) (S:St) (t:TypeId) (m x v:AV):Option (List Prop×St) :=
 bif o then lr P S t m x v else match eQ P S t m x v with
  | some r=>some r
  | none=>gY P S t m x v
def Mw (P:Program) (ss:Specs) (S:St) (o:Oper):Option (List Prop×St) :=
 match o.dst with
 | none=>match o.op with
  | .store t ad v=>kE P S t (S.look [] ad) (S.look [] v)
  | .mapUpdate t m x v=>gq ss.opn P S t (S.look [] m) (S.look [] x) (S.look [] v)
  | .insert t m x v=>gq ss.opn P S t (S.look [] m) (S.look [] x) (S.look [] v)
  | .call { callee:=.builtin .clear,args,argTypes }=>match args.toList,argTypes.toList with
   | [x],[t]=>s8 P S t (S.look [] x)
   | _,_=>none
  | _=>none
 | some d=>match o.op with
  | .box _ x=>Ha S d (S.look [] x)
  | .alloc elem=>lS P S d elem
  | .call { callee:=.value (.func f),args,.. }=>lP P ss S d f args.toList
  | .call { callee:=.builtin .append,args,argTypes }=>match args.toList,argTypes.toList with
   | [s,x],[t,t']=>if Nat.beq t t' then jU P S d t (S.look [] s) (S.look [] x) else fc P S d t t' (S.look [] s) (S.look [] x)
   | _,_=>none
  | .call { callee:=.builtin .copy,args,argTypes }=>match args.toList,argTypes.toList with
   | [x,y],[t,_]=>oI P S d t (S.look [] x) (S.look [] y)
   | _,_=>none
  | .makeSlice t l c=>if lC l c then oF P S d t (S.look [] l) else none
  | .buildSlice t len parts=>jx P S d t len parts.toList
  | .slice t x none (some h) none=>vf P S d t (S.look [] x) (S.look [] h)
  | .convert src dst x=>lQ P S d src dst (S.look [] x)
  | .makeMap t none=>np P S d t
  | .range t x=>s6 P S d t (S.look [] x)
  | .assign x=>if Nat.blt d S.n then some ([],S.set d (S.look [] x)) else none
  | _=>none
section
variable {M:Nat->Prop} {p0:PH} {w0:World} {S:St} {w:World} {p:PH} {β:Nat->Value} {P:Program} {a:Act}
def EOK (M:Nat->Prop) (p0:PH) (w0:World) (S':St) (P:Program) (o:Oper) (a:Act) (w:World):Prop :=
 ∀ (K:Act->World->Prop) (Q:Exit->Act->World->Prop),(∀ a' w',Sat M p0 w0 S' a'.tmps w'->a'.defers=a.defers->K a' w')->o.wp P a w K Q
theorem EOK.of_run {S':St} {o:Oper} {d:Nat} {v:Value} {w':World} (ho:o.dst=some d) (hs:(execOp a.eval o).run P w=.ok (.value v) w')
  (h:Sat M p0 w0 S' (a.tmps.setIfInBounds d v) w'):EOK M p0 w0 S' P o a w:=by
 intro K Q hK;unfold Oper.wp;rw [hs,Oper.upon_value,ho];exact hK _ w' h rfl
theorem dc {m n:Nat} (h:Nat.blt m n=true):m<n:=by simpa using h
theorem ln (β:Nat->Value) (d:Nat) (v:Value):(fun x=>if x=d then v else β x) d=v:=by simp
theorem aN (tm:Array Value):gB [] tm:=by intro c hc; cases hc
theorem l9 {c:AV} {cs:List Value} {d:Nat} {v:Value} (h:c.cells p β cs):(c.scrub (fun x=>Nat.beq x d)).cells p (fun x=>if x=d then v else β x) cs :=
 AV.cells_scrub (fun x hx=>by
  have:x≠d:=by intro e; subst e; simp at hx
  simp [this]) c cs h
theorem Gw (hS:SatB M p0 w0 S a.tmps w p β) {d b:Nat} (hd:d<S.n) (hb:β d=.pointer (some ⟨b,0,none⟩)) :
  SatB M p0 w0 (S.set d (.loc d 0)) (a.tmps.setIfInBounds d (.pointer (some ⟨b,0,none⟩))) w p β :=
 hS.set hd ⟨b,hb,rfl⟩
theorem Dv (hS:SatB M p0 w0 S a.tmps w p β) {o:Oper} {d:Nat} {elem:TypeId} {x:Operand} (hd:o.dst=some d) (ho:o.op=.box elem x) {ps:List Prop} {S':St}
  (h:Ha S d (S.look [] x)=some (ps,S')):EOK M p0 w0 S' P o a w:=by
 unfold Ha at h;split at h <;> simp only [Ps,Pv,reduceCtorEq] at h <;> obtain ⟨rfl,rfl⟩:=h;rename_i hb;simp only [Px] at hb;have hv:=aU hS (aN _) x;have hc:=kW hS hv hb.1.1
 have hn:=hS.newEntry (cs:=(a.eval x).cells) (t:=elem) (d:=d) (e:=.cells ((S.look [] x).scrub (fun y=>Nat.beq y d))) (v:=.pointer (some ⟨w.heap.size,0,none⟩)) rfl
  ⟨w.heap.size,_,elem,ln _ _ _,QO w _,l9 hc⟩
 refine EOK.of_run hd (v:=.pointer (some ⟨w.heap.size,0,none⟩)) (w':=w.alloc (.cells (a.eval x).cells elem)) ?_ ⟨p,_,Gw hn (dc hb.1.2) (ln _ _ _)⟩;simp only [execOp,ho];rfl
theorem wQ (hS:SatB M p0 w0 S a.tmps w p β) {o:Oper} {d:Nat} {elem:TypeId} (hd:o.dst=some d) (ho:o.op=.alloc elem) {ps:List Prop} {S':St}
  (h:lS P S d elem=some (ps,S')):EOK M p0 w0 S' P o a w:=by
 unfold lS at h;split at h <;> try cases h
 rename_i i hi;split at h <;> try cases h
 rename_i z hz;split at h <;> simp only [Ps,Pv,reduceCtorEq] at h <;> obtain ⟨rfl,rfl⟩:=h;rename_i hb;simp only [Px] at hb;have h0:=dc hb.1.1
 have hn:=hS.newEntry (cs:=z.cells) (t:=elem) (d:=d) (e:=.cells (AV.ofCells z.cells.toList)) (v:=.pointer (some ⟨w.heap.size,0,none⟩)) rfl
  ⟨w.heap.size,_,elem,ln _ _ _,QO w _,cC _ (by intro e; rw [e] at h0; simp at h0)⟩
 refine EOK.of_run hd (v:=.pointer (some ⟨w.heap.size,0,none⟩)) (w':=w.alloc (.cells z.cells elem)) ?_ ⟨p,_,Gw hn (dc hb.1.2) (ln _ _ _)⟩;simp only [execOp,ho,Instr.alloc,PR,zeroValue,typeInfo,Rd,hi,hz,PL,P2];rfl
end
theorem iP {α:Type} (A B:List α) (n:Nat) (h:n=A.length):(A++B).take n=A:=by subst h; simp
theorem qe {α:Type} (A B:List α) (n:Nat) (h:n=A.length):(A++B).drop n=B:=by subst h; simp
theorem MH {α:Type} (A B C D E F vs:List α) (hC:vs.length=C.length) {s n o1 off N:Nat} (h1:o1=A.length) (h2:off=B.length) (h3:n=C.length) (h4:s=off+n+D.length) (h5:N=o1+s+E.length) :
  (((A++B++C++D++E++F).take (o1+off)++vs++(A++B++C++D++E++F).drop (o1+off+n)).take N) =
   (A++B++C++D++E).take o1++((((A++B++C++D++E).drop o1).take s).take off++vs++(((A++B++C++D++E).drop o1).take s).drop (off+n))++(A++B++C++D++E).drop (o1+s):=by
 have e1:(A++B++C++D++E++F).take (o1+off)=A++B:=by
  rw [show A++B++C++D++E++F=(A++B)++(C++D++E++F) by simp,iP]; simp; omega
 have e2:(A++B++C++D++E++F).drop (o1+off+n)=D++E++F:=by
  rw [show A++B++C++D++E++F=(A++B++C)++(D++E++F) by simp,qe]; simp; omega
 have e3:(A++B++C++D++E).take o1=A:=by
  rw [show A++B++C++D++E=A++(B++C++D++E) by simp,iP]; omega
 have e4:(A++B++C++D++E).drop o1=B++C++D++E:=by
  rw [show A++B++C++D++E=A++(B++C++D++E) by simp,qe]; omega
 have e5:(B++C++D++E).take s=B++C++D:=by rw [iP]; simp; omega
 have e6:(B++C++D).take off=B:=by rw [show B++C++D=B++(C++D) by simp,iP]; omega
 have e7:(B++C++D).drop (off+n)=D:=by rw [qe]; simp; omega
 have e8:(A++B++C++D++E).drop (o1+s)=E:=by rw [qe]; simp; omega
 rw [e1,e2,e3,e4,e5,e6,e7,e8];rw [show A++B++vs++(D++E++F)=(A++B++vs++D++E)++F by simp,iP]
 ·simp
 ·simp; omega
theorem EJ {α:Type} (cur l vs:List α) {s n o1 off N:Nat} (hl:cur.take N=l) (hN:N<=cur.length) (h1:o1+s<=N) (h2:off+n<=s) (hv:vs.length=n) :
  ((cur.take (o1+off)++vs++cur.drop (o1+off+n)).take N)=l.take o1++(((l.drop o1).take s).take off++vs++((l.drop o1).take s).drop (off+n))++l.drop (o1+s):=by
 have hd:cur=cur.take o1++(cur.drop o1).take off++(cur.drop (o1+off)).take n++(cur.drop (o1+off+n)).take (s - off - n)++(cur.drop (o1+s)).take (N - o1 - s)++cur.drop N:=by
  have a1:cur=cur.take o1++cur.drop o1:=(Qr _ _).symm
  have a2:cur.drop o1=(cur.drop o1).take off++cur.drop (o1+off):=by
   have:cur.drop (o1+off)=(cur.drop o1).drop off:=by rw [QZ]
   rw [this]; exact (Qr _ _).symm
  have a3:cur.drop (o1+off)=(cur.drop (o1+off)).take n++cur.drop (o1+off+n):=by
   have:cur.drop (o1+off+n)=(cur.drop (o1+off)).drop n:=by rw [QZ]
   rw [this]; exact (Qr _ _).symm
  have a4:cur.drop (o1+off+n)=(cur.drop (o1+off+n)).take (s - off - n)++cur.drop (o1+s):=by
   have:cur.drop (o1+s)=(cur.drop (o1+off+n)).drop (s - off - n):=by rw [QZ]; congr 1; omega
   rw [this]; exact (Qr _ _).symm
  have a5:cur.drop (o1+s)=(cur.drop (o1+s)).take (N - o1 - s)++cur.drop N:=by
   have:cur.drop N=(cur.drop (o1+s)).drop (N - o1 - s):=by rw [QZ]; congr 1; omega
   rw [this]; exact (Qr _ _).symm
  calc cur=cur.take o1++cur.drop o1:=a1
   _=cur.take o1++((cur.drop o1).take off++((cur.drop (o1+off)).take n++((cur.drop (o1+off+n)).take (s - off - n)++((cur.drop (o1+s)).take (N - o1 - s)++cur.drop N)))):=by
    rw [<- a5,<- a4,<- a3,<- a2]
   _=_:=by simp
 have hl':l=cur.take o1++(cur.drop o1).take off++(cur.drop (o1+off)).take n++(cur.drop (o1+off+n)).take (s - off - n)++(cur.drop (o1+s)).take (N - o1 - s):=by
  rw [<- hl]
  conv=>lhs; rw [hd]
  rw [iP];simp; omega
 rw [hl']
 conv=>lhs; rw [hd]
 exact MH _ _ _ _ _ _ vs (by simp; omega) (by simp; omega) (by simp; omega) (by simp; omega) (by simp; omega) (by simp; omega)
section
variable {M:Nat->Prop} {p0:PH} {w0:World} {S:St} {w:World} {p:PH} {β:Nat->Value} {P:Program} {a:Act}
theorem rx {α:Type} {h:α->List Value->Prop} {n:Nat} (hn:∀ x cs,h x cs->cs.length=n):∀ (xs:List α) (cs:List Value) (i:Nat) (y:α) (ys:List Value),aM h xs cs->i<xs.length->h y ys ->
  aM h (xs.set i y) (cs.take (i * n)++ys++cs.drop ((i+1) * n))
 | [],_,_,_,_,_,hi,_=>by simp at hi
 | x::xs,cs,0,y,ys,⟨c1,c2,e,h1,h2⟩,_,hy=>by
  have l1:=hn _ _ h1;subst e;refine ⟨ys,c2,?_,hy,h2⟩;have:(c1++c2).drop n=c2:=by rw [<- l1]; simp
  simp [this]
 | x::xs,cs,i+1,y,ys,⟨c1,c2,e,h1,h2⟩,hi,hy=>by
  have l1:=hn _ _ h1;subst e;have ih:=rx hn xs c2 i y ys h2 (by simpa using hi) hy;refine ⟨c1,_,?_,h1,ih⟩
  have e1:(c1++c2).take ((i+1) * n)=c1++c2.take (i * n):=by
   rw [QR,R1,PJ (by omega)];congr 2; omega
  have e2:(c1++c2).drop ((i+1+1) * n)=c2.drop ((i+1) * n):=by
   rw [QR,Rx,P7 (by omega),P0];congr 1; omega
  rw [e1,e2];simp
theorem Dk (ds:List Nat) (S:St) (ctx:List (Nat×Bool)) (x:Operand):(S.freeze ds).look ctx x=S.look ctx x:=by
 unfold St.look; rw [FM]
theorem F4 {A:Ty} {x:A.den} {c:AV} {cs:List Value} (hS:SatB M p0 w0 S a.tmps w p β) (h:AV.toTy false S.lh A c=some x) (hc:c.cells p β cs):A.holds p x cs:=by
 have:=be hS (rows:=false) A c x cs h hc;simpa using this
theorem gO {o:Oper} {w':World} {S':St} (hd:o.dst=none) {s:Sem Unit} (ho:execOp a.eval o=(do s; pure .skip)) (hs:s.run P w=.ok () w') (h:Sat M p0 w0 S' a.tmps w'):EOK M p0 w0 S' P o a w:=by
 intro K Q hK;unfold Oper.wp;rw [ho];simp only [PR,hs,PL,P2,Oper.upon_skip,hd,Act.put];exact hK a w' h rfl
theorem wI (hS:SatB M p0 w0 S a.tmps w p β) {o:Oper} {t:TypeId} {ad x:Operand} (hd:o.dst=none) (ho:o.op=.store t ad x) {ps:List Prop} {S':St}
  (h:kE P S t (S.look [] ad) (S.look [] x)=some (ps,S')) (hps:∀ q∈ps,q):EOK M p0 w0 S' P o a w:=by
 have hx:=aU hS (aN _) x;have had:=aU hS (aN _) ad;unfold kE at h;split at h <;> try cases h
 rename_i n hn;split at h
 ·cases h
 rename_i hz;have hn0:n≠0:=by intro e; rw [e] at hz; simp at hz
 split at h
 ·rename_i d off hav;rw [hav] at had;split at h <;> try cases h
  rename_i c hc;split at h <;> simp only [Ps,Pv,reduceCtorEq] at h <;> obtain ⟨rfl,rfl⟩:=h;rename_i hb;simp only [Px] at hb;obtain ⟨⟨⟨⟨_,h1⟩,h2⟩,h3⟩,h4⟩:=hb;have h1:=Pw h1;have h2:=PN h2;obtain ⟨b,e1,e2⟩:=had;obtain ⟨b',cs,ty,e3,e4,e5⟩:=hS.lhs d _ hc;rw [e1] at e3;injection e3 with e3
  injection e3 with e3
  injection e3 with e3
  subst e3;have hv:=kW hS hx h3;have hlv:=AV.len_cells _ _ hv;have hlc:=AV.len_cells _ _ e5;have hsz:(a.eval x).cells.size=n:=by simp at hlv; omega
  have hone:=kT hS _ _ hv h4;have hrun:=mo (P:=P) (w:=w) (t:=t) hn e4 hsz hone (o:=off) (by simp at hlc; omega);have hput:=AV.cells_put off _ n c _ _ e5 hv (by simpa using hsz) (by omega) (by simp at hlc |-; omega);obtain ⟨f1,f2,f3,f4,f5,f6⟩:=cd w b (cs.toList.take off++(a.eval x).cells.toList++cs.toList.drop (off+n)).toArray e4;refine gO hd (s:=Instr.storeAt t (a.eval ad) (a.eval x)) (by simp only [execOp,ho]) (by rw [e2]; exact hrun) ⟨p,β,hS.turn hc rfl (by rw [e1]; rfl) f2 f3 f4 f5 f6 ?_⟩;exact ⟨b,_,ty,e1,f1,by simpa using hput⟩
 ·rename_i d T i off hav;rw [hav] at had;obtain ⟨p1,hle,hS1⟩:=bX (S.look [] x).owns S p hS;split at h;rotate_left
  ·rename_i c hc;split at h <;> try cases h
   rename_i N c' hput;split at h <;> simp only [Ps,Pv,reduceCtorEq] at h <;> obtain ⟨rfl,rfl⟩:=h;rename_i hb;simp only [Px] at hb;have hn1:=Pw hb.1.2;have ho:=Pw hb.2;have hi:i<N:=hps _ (by simp);subst hn1 ho
   obtain ⟨k,m,xs,rfl,hv,hxs,rfl,rfl⟩:∃ (k:IntKind) (m:Int) (xs:List Int),T=.int k/\S.look [] x=.int k m/\c.ints k=some xs/\N=xs.length/\c'=c.setI i m 0:=by
    unfold AV.putI at hput;split at hput <;> try cases hput
    rename_i k k' m hv;split at hput <;> try cases hput
    rename_i hk;subst hk;obtain ⟨xs,hxs,e⟩:=Py.1 hput;simp only [Pv] at e;exact ⟨_,m,xs,rfl,hv,hxs,e.1.symm,e.2.symm⟩
   rw [hv] at hx;obtain ⟨ex,hm⟩:=ca hx;obtain ⟨b,e1,e2⟩:=had;obtain ⟨b',cs,ty,e3,e4,e5⟩:=hS1.lhs d _ hc;rw [e3] at e1;injection e1 with e1
   subst e1;obtain ⟨e6,_⟩:=ot hxs e5
   have hlen:cs.size=xs.length:=by
    have:=congrArg List.length e6;simpa using this
   have hsz:(a.eval x).cells.size=1:=by rw [ex]; rfl
   have hone:=kT hS _ _ (kW hS (hv ▸ aU hS (aN _) x) (a:=.int k m) rfl) rfl;have hin:i+1<=cs.size:=by rw [hlen]; exact hi
   have hrun:=mo (P:=P) (w:=w) (t:=t) hn e4 hsz hone (o:=i) (by first | exact hin | simpa using hin);have hset:=E7 (i:=i) hm hxs e5 (j:=0) (Qa _) (by omega);obtain ⟨f1,f2,f3,f4,f5,f6⟩:=cd w b' (cs.toList.take i++(a.eval x).cells.toList++cs.toList.drop (i+1)).toArray e4;refine gO hd (s:=Instr.storeAt t (a.eval ad) (a.eval x)) (by simp only [execOp,ho]) (by rw [e2]; simpa [Ty.size] using hrun) ⟨p1,β,hS1.turn hc rfl (by rw [e3]; rfl) f2 f3 f4 f5 f6 ?_⟩;refine ⟨b',_,ty,e3,f1,?_⟩;rw [ex];simpa [Value.cells] using hset
  ·cases h
  rename_i e' T' xs iC;split at h <;> try cases h
  rename_i hT;subst hT;split at h <;> try cases h
  rename_i hb;split at h <;> simp only [Ps,Pv,reduceCtorEq] at h <;> obtain ⟨rfl,rfl⟩:=h;rename_i y hy;simp only [Px] at hb;obtain ⟨⟨⟨⟨_,h1⟩,h2⟩,h3⟩,h4⟩:=hb;have h1:=Pw h1;have h2:=PN h2;have hi:i<xs.length:=hps _ (by simp);obtain ⟨b,e1,e2⟩:=had;have hv:=kW hS hx h3;have hlv:=AV.len_cells _ _ hv;have hsz:(a.eval x).cells.size=n:=by simp at hlv; omega
  have hone:=kT hS _ _ hv h4;obtain ⟨l,g1,g2,g3⟩:=hS1.lhs d _ iC;rcases g1.2 with ⟨_,h0⟩ | ⟨g,cap,cur,q1,_,q2,q3,q3',q4,q5⟩
  ·omega
  rw [q1] at e1;injection e1 with e1
  have e1:=e1.symm;subst e1
  have hle1:(i+1) * T'.size<=cur.size:=by
   have:(i+1) * T'.size<=cap * T'.size:=P8 _ (by omega);omega
  rw [QR] at hle1;have hrun:=mo (P:=P) (w:=w) (t:=t) hn q2 hsz hone (o:=i * T'.size+off) (by omega);obtain ⟨f1,f2,f3,f4,f5,f6⟩:=cd w b (cur.toList.take (i * T'.size+off)++(a.eval x).cells.toList++cur.toList.drop (i * T'.size+off+n)).toArray q2;have hll:l.length=xs.length * T'.size:=g1.1;have hT:=Ty.holds_length (p:=p1) T';have hxi:xs[i]?=some (xs.getD i T'.dflt):=by simp [List.getD,hi]
  have hel:=kl (fun x cs h=>Ty.holds_length T' x cs h) xs l g2 i _ hxi;have hmul:(i+1) * T'.size<=xs.length * T'.size:=P8 _ hi;rw [QR] at hmul;have hell:((l.drop (i * T'.size)).take T'.size).length=T'.size:=by simp; omega
  have hput:=AV.cells_put off _ n _ _ _ (Ty.av_cells (β:=β) T' _ _ hel) (AV.cells_mono hle _ _ hv) (by simpa using hsz) (by omega) (by omega);have hy':=F4 hS1 hy hput;have hset:=rx (fun x cs h=>Ty.holds_length T' x cs h) xs l i y _ g2 hi hy';refine gO hd (s:=Instr.storeAt t (a.eval ad) (a.eval x)) (by simp only [execOp,ho]) (by rw [e2]; exact hrun) ⟨p1,β,hS1.turn iC rfl (by rw [q1]; rfl) f2 f3 f4 f5 f6 ?_⟩;refine ⟨_,⟨?_,.inr ⟨b,cap,_,by rw [q1]; simp,Qa _,f1,by simpa using q3,q3',?_,?_⟩⟩,hset,by simpa using g3⟩
  ·simp only [PC,PM,PW,Ra];simp only [QE,hsz];rw [QR];omega
  ·simp only [Qx,PC,PM,PW,QE,hsz];omega
  ·
   simp only [Ra];rw [QR];exact EJ cur.toList l _ q5 (by simp; rw [q4]; exact P8 _ q3) (by omega) h2 (by simpa using hsz)
 ·cases h
end
section
variable {M:Nat->Prop} {p0:PH} {w0:World} {S:St} {w:World} {p:PH} {β:Nat->Value} {P:Program} {a:Act}
theorem GB (d:Nat):∀ (Rs:List RT) (k:Nat) (x:eB Rs) (S:St),(lf d k Rs x S).n=S.n:=by
 intro Rs
 induction Rs with
 | nil=>intro k x S; rfl
 | cons R Rs ih =>
  intro k x S;have put_n:∀ (R:RT) (x:R.den) (nm:Nat) (S:St),(R.put x nm S).n=S.n:=by intro R x nm S; cases R <;> rfl
  cases Rs with
  | nil=>exact put_n R x _ S
  | cons U Rs=>exact (ih (k+1) x.2 _).trans (put_n R x.1 _ S)
theorem AI (hS:SatB M p0 w0 S a.tmps w p β) {ss:Specs} {f:FuncId} (args:List Operand):∃ p1,PH.le p p1/\SatB M p0 w0 (fL ss S f args) a.tmps w p1 β/\(fL ss S f args).n=S.n:=by
 unfold fL;split
 ·split
  ·obtain ⟨p1,h1,h2⟩:=bX ((args.map (S.look [])).flatMap AV.owns) S p hS;exact ⟨p1,h1,h2,(cN _ _).2.1⟩
  ·exact ⟨p,PH.le.refl p,hS,rfl⟩
 ·exact ⟨p,PH.le.refl p,hS,rfl⟩
theorem cJ {t e:TypeId} (h:eJ P t=some e):P.underlying t=some (.slice e):=by
 unfold eJ at h;split at h
 ·rename_i e' hu;injection h with h
  subst h;exact hu
 ·cases h
theorem dB {e:TypeId} {T:Ty} (h:fm P e T=true):∃ i z,P.info? e=some i/\i.size=T.size/\i.bytes<=T.bytes/\i.zero=some z/\z.cells.size=T.size:=by
 unfold fm at h;split at h <;> try cases h
 rename_i i hi;simp only [Px] at h;obtain ⟨⟨h1,h2⟩,h3⟩:=h;split at h3 <;> try cases h3
 rename_i z hz;exact ⟨i,z,hi,Pw h1,PN h2,hz,by have:=Pw h3; simpa using this⟩
theorem i7 (hS:SatB M p0 w0 S a.tmps w p β) {x:AV} {v:Value} {T:Ty} {ys:List T.den} (h:x.asRow S.lh=some ⟨T,ys⟩) (hx:x.val p β a.tmps v) :
  ∃ A c l,v=.slice A ys.length c/\aM (T.holds p) ys l/\ys.length * T.bytes<=aF/\(ys≠[]->∃ b o,A=some ⟨b,o,none⟩/\∀ (j:Nat) (u:Value),l[j]?=some u->w.cell? ⟨b,o+j,none⟩=some u):=by
 have arr:∀ {T:Ty} {ys:List T.den} {v:Value},(Ty.arr T).holds p ys [v] ->
   ∃ A c l,v=.slice A ys.length c/\aM (T.holds p) ys l/\ys.length * T.bytes<=aF/\(ys≠[]->∃ b o,A=some ⟨b,o,none⟩/\∀ (j:Nat) (u:Value),l[j]?=some u->w.cell? ⟨b,o+j,none⟩=some u):=by
  intro T ys v hv;obtain ⟨A,c,l,e,h1,h2,h3,h4⟩:=hv;injection e with e _
  refine ⟨A,c,l,e,h3,h2,fun hne=>?_⟩;obtain ⟨b,o,hA,hc⟩:=h4 hne;exact ⟨b,o,hA,fun j u hu=>nU hS.agr (hc j u hu)⟩
 cases x <;> simp only [AV.asRow,reduceCtorEq] at h
 ·rename_i T' xs;injection h with h
  cases h;exact arr hx
 ·rename_i d;have hx':v=β d:=hx;subst hx';split at h <;> simp only [Ps,reduceCtorEq] at h <;> cases h
  ·rename_i hd;obtain ⟨l,h1,h2,h3⟩:=hS.lhs d _ hd;rcases h1.2 with ⟨e0,h0⟩ | ⟨g,cap,cur,e1,_,e2,e3,_,e4,e5⟩
   ·exact ⟨none,0,l,by rw [e0,h0],h2,h3,fun hne=>absurd (PO h0) hne⟩
   ·refine ⟨_,cap,l,e1,h2,h3,fun _=>⟨g,0,rfl,fun j u hu=>?_⟩⟩;rw [eD e2];rw [<- e5,List.getElem?_take] at hu;split at hu
    ·simpa using hu
    ·cases hu
  ·rename_i hd;exact arr (hS.lhs d _ hd)
theorem AL (hS:SatB M p0 w0 S a.tmps w p β) {x:AV} {v:Value} {qs:List Prop} {T:Ty} {ys:List T.den} (h:x.asRowP S.lh=some (qs,⟨T,ys⟩)) (hq:∀ q∈qs,q) (hx:x.val p β a.tmps v) :
  ∃ A c l,v=.slice A ys.length c/\aM (T.holds p) ys l/\ys.length * T.bytes<=aF/\(ys≠[]->∃ b o,A=some ⟨b,o,none⟩/\∀ (j:Nat) (u:Value),l[j]?=some u->w.cell? ⟨b,o+j,none⟩=some u):=by
 unfold AV.asRowP at h;split at h
 ·rename_i d T1 i n;split at h
  ·rename_i e T' xs hd;split at h
   ·rename_i hT;subst hT;simp only [Ps,Pv] at h;obtain ⟨rfl,h⟩:=h;cases h;have hin:i+n<=xs.length:=hq _ (by simp);have hlen:((xs.drop i).take n).length=n:=by simp; omega
    rcases o6 hS hd with ⟨e1,hb⟩ | ⟨g,cap,cur,l,hb,hg,hc,hr,hl,hbig⟩
    ·have hn:n=0:=by rw [e1] at hin; simp at hin; omega
     rcases hx with ⟨b,m,cc,c',q1,q2⟩ | ⟨_,B,c',q2⟩
     ·rw [hb] at q1;cases q1
     ·refine ⟨B,c',[],by rw [hlen,hn]; exact q2,?_,by rw [hlen,hn]; simp,fun hne=>absurd (PO (hlen.trans hn)) hne⟩;rw [PO (hlen.trans hn)];rfl
    ·rcases hx with ⟨b,m,cc,c',q1,q2⟩ | ⟨hn,B,c',q2⟩
     ·rw [hb] at q1;injection q1 with q1 _ _
      injection q1 with q1
      injection q1 with q1
      subst q1;have r1:=eZ (fun x cs h=>Ty.holds_length (p:=p) _ x cs h) i xs l hr;have r2:=dw (fun x cs h=>Ty.holds_length (p:=p) _ x cs h) n _ _ r1;refine ⟨_,c',_,by rw [hlen]; exact q2,r2,?_,fun _=>⟨g,_,rfl,fun j u hu=>?_⟩⟩
      ·rw [hlen];exact P9 (P8 _ (by omega)) hbig
      ·rw [eD hg];rw [List.getElem?_take] at hu;split at hu
       ·rw [List.getElem?_drop] at hu;exact hl _ _ hu
       ·cases hu
     ·refine ⟨B,c',[],by rw [hlen,hn]; exact q2,?_,by rw [hlen,hn]; simp,fun hne=>absurd (PO (hlen.trans hn)) hne⟩;rw [PO (hlen.trans hn)];rfl
   ·cases h
  ·cases h
 ·split at h
  ·rename_i r hr;simp only [Ps,Pv] at h;obtain ⟨_,rfl⟩:=h;exact i7 hS hr hx
  ·cases h
theorem uz {t ty e:TypeId} {i:TypeInfo} (ht:P.underlying t=some (.slice e)) (hi:P.info? e=some i) {v:Value} {n:Nat} {l:List Value} {size:Nat} (hown:w.ownsRow 0 e size v n l) (c:Nat) :
  (Builtin.append_ #[t,t] ty #[v,.slice none 0 c]).run P w=.ok v w:=by
 rcases hown.2 with ⟨rfl,rfl⟩ | ⟨g,cap,cur,rfl,_,_,hnc,_⟩
 ·simp [Builtin.append_,PS ht,sizeOf,typeInfo,hi,Builtin.lenOf,Builtin.firstCells]
 ·simp [Builtin.append_,PS ht,sizeOf,typeInfo,hi,Builtin.lenOf,Builtin.firstCells,hnc,storeCells]
theorem lW {t ty e:TypeId} {T:Ty} (ht:P.underlying t=some (.slice e)) (hf:fm P e T=true) {v:Value} {n:Nat} {l:List Value} (hown:w.ownsRow 0 e T.size v n l)
  {A:Option Addr} {c:Nat} {ys:List T.den} {l2:List Value} (hl2:aM (T.holds p) ys l2) (hA:ys≠[]->∃ b o,A=some ⟨b,o,none⟩/\∀ (j:Nat) (u:Value),l2[j]?=some u->w.cell? ⟨b,o+j,none⟩=some u)
  (hbig:(n+ys.length) * T.bytes<=aF) :
  ∃ v' w',(Builtin.append_ #[t,t] ty #[v,.slice A ys.length c]).run P w=.ok v' w'/\w'.ownsRow 0 e T.size v' (n+ys.length) (l++l2)/\w.grownBy w' v.ownBlock /\
   (v'.ownBlock=v.ownBlock\/v'.ownBlock=some w.heap.size):=by
 obtain ⟨i,z,hi,hsz,hby,hz,hzs⟩:=dB hf;have hlen:=c6 (fun x cs h=>Ty.holds_length (p:=p) T x cs h) ys l2 hl2;have hbig':(n+ys.length) * i.bytes<=140737488355328:=P9 (Qu _ hby) hbig
 have h63:n+ys.length<=maxLen:=by
  have:=fp T;have h2:(n+ys.length) * 8<=(n+ys.length) * T.bytes:=Qu _ this;simp only [aF,maxLen] at *;omega
 have some_case:∀ (ad:Addr),A=some ad->(∀ (j:Nat) (u:Value),l2[j]?=some u->w.cell? (ad.add j)=some u) ->
   ∃ v' w',(Builtin.append_ #[t,t] ty #[v,.slice A ys.length c]).run P w=.ok v' w'/\w'.ownsRow 0 e T.size v' (n+ys.length) (l++l2)/\w.grownBy w' v.ownBlock /\
   (v'.ownBlock=v.ownBlock\/v'.ownBlock=some w.heap.size):=by
  intro ad hA hc;subst hA
  obtain ⟨v',w',h1,h2,h3,_,h5⟩:=run_append_own_at (P:=P) w 0 t ty e i z T.size i.bytes ht hi hz hsz rfl hzs (Ty.size_pos T) v n l hown ad ys.length c l2 hlen hc
   (fD (fun x cs h=>dA T x cs h) ys l2 hl2) h63 hbig' (Qa _)
  exact ⟨v',w',h1,h2,h3,h5⟩
 by_cases hy:ys=[]
 ·subst hy;simp only [aM] at hl2;subst hl2;cases A with
  | none=>exact ⟨v,w,uz ht hi hown c,by simpa using hown,Se w _,.inl rfl⟩
  | some ad=>exact some_case ad rfl (fun j u hu=>by simp at hu)
 ·obtain ⟨b,o,rfl,hc⟩:=hA hy;exact some_case _ rfl (fun j u hu=>by rw [fM]; exact hc j u hu)
theorem dy {v:Value} {e:TypeId} {size n:Nat} {l:List Value} (h:w.ownsRow 0 e size v n l):b8 v=v.ownBlock:=by
 rcases h.2 with ⟨rfl,_⟩ | ⟨g,cap,cur,rfl,_⟩ <;> rfl
theorem tQ {S0:St} (hS0:SatB M p0 w0 S0 a.tmps w p β) {v:Value} {w':World} (hg:w.grownBy w' v.ownBlock)
  (hM:∀ b,v.ownBlock=some b->(M b\/w0.heap.size<=b)/\p b=none/\b<w.heap.size)
  (hfree:∀ d' e' b,S0.lh d'=some e'->e'.live=true->v.ownBlock=some b->b8 (β d')≠some b):SatB M p0 w0 S0 a.tmps w' p β:=by
 refine ⟨hS0.keep.trans_grow hg.os hg.tape hg.output hg.size (fun b hb' hm hb0=>hg.block b hb' (fun e=>?_)),fun b cs hbc=>?_,hS0.old,hS0.size,fun d' e' hd'=>?_,hS0.owns,hS0.inj,hS0.env⟩
 ·rcases (hM b e.symm).1 with h | h
  ·exact hm h
  ·omega
 ·rw [hg.block b (hS0.agr.lt hbc) (fun e=>by have:=(hM b e.symm).2.1; rw [this] at hbc; cases hbc)];exact hS0.agr b cs hbc
 ·exact LE.sat_world d' e' (hS0.lhs d' e' hd') (fun b hl' hb'=>hg.block b (LE.sat_lt d' e' hl' (hS0.lhs d' e' hd') hb') (fun e=>hfree d' e' b hd' hl' e.symm hb'))
theorem xg {S0:St} (hS0:SatB M p0 w0 S0 a.tmps w p β) {v v':Value} {w':World} {e:TypeId} {T:Ty} {zs:List T.den} {l:List Value} {d:Nat} (hd:d<S0.n)
  (hown:w'.ownsRow 0 e T.size v' zs.length l) (hl:aM (T.holds p) zs l) (hbig:zs.length * T.bytes<=aF) (hg:w.grownBy w' v.ownBlock)
  (hb:∀ b,v'.ownBlock=some b->v.ownBlock=some b\/w.heap.size<=b)
  (hM:∀ b,v.ownBlock=some b->(M b\/w0.heap.size<=b)/\p b=none/\b<w.heap.size)
  (hfree:∀ d' e' b,S0.lh d'=some e'->e'.live=true->v.ownBlock=some b->b8 (β d')≠some b) :
  Sat M p0 w0 ((S0.fresh d (.row e T zs)).set d (.own d)) (a.tmps.setIfInBounds d v') w':=by
 have hgrow:=tQ hS0 hg hM hfree;have hblk:=dy hown
 have hfresh:=hgrow.fresh (d:=d) (e:=.row e T zs) (v:=v') ⟨l,by simpa using hown,hl,hbig⟩
  (fun b _ hb'=>by
   rw [hblk] at hb';rcases hb b hb' with hb' | hb'
   ·exact ⟨(hM b hb').1,(hM b hb').2.1⟩
   ·refine ⟨.inr (P9 hS0.keep.size hb'),?_⟩;cases hp:p b with
    | none=>rfl
    | some c=>have:=hS0.agr.lt hp; omega)
  (fun d' e' b _ _ hd' hl' hb' hb''=>by
   rw [hblk] at hb';rcases hb b hb' with hb' | hb'
   ·exact hfree d' e' b hd' hl' hb' hb''
   ·have:=LE.sat_lt d' e' hl' (hS0.lhs d' e' hd') hb'';omega)
 exact ⟨p,_,hfresh.set hd (show v'=_ by simp)⟩
theorem qn {S0:St} (hS0:SatB M p0 w0 S0 a.tmps w p β) {v v':Value} {w':World} {e:TypeId} {T:Ty} {zs:List T.den} {l:List Value} {d:Nat} (hd:d<S0.n)
  (hown:w'.ownsRow 0 e T.size v' zs.length l) (hl:aM (T.holds p) zs l) (hbig:zs.length * T.bytes<=aF) (hg:w.grownBy w' v.ownBlock) (hb:v'.ownBlock=v.ownBlock\/v'.ownBlock=some w.heap.size)
  (hM:∀ b,v.ownBlock=some b->(M b\/w0.heap.size<=b)/\p b=none/\b<w.heap.size)
  (hfree:∀ d' e' b,S0.lh d'=some e'->e'.live=true->v.ownBlock=some b->b8 (β d')≠some b) :
  Sat M p0 w0 ((S0.fresh d (.row e T zs)).set d (.own d)) (a.tmps.setIfInBounds d v') w' :=
 xg hS0 hd hown hl hbig hg (fun b h=>by
  rcases hb with e1 | e1
  ·exact .inl (e1 ▸ h)
  ·rw [e1] at h;injection h with h
   exact .inr (Nat.le_of_eq h)) hM hfree
theorem xh (hS:SatB M p0 w0 S a.tmps w p β) {d:Nat} {e:TypeId} {T:Ty} {xs:List T.den} (hd:S.lh d=some (.row e T xs)) :
  ∀ b,(β d).ownBlock=some b->(M b\/w0.heap.size<=b)/\p b=none/\b<w.heap.size:=by
 intro b hb;obtain ⟨l,h1,h2,h3⟩:=hS.lhs d _ hd;rw [<- dy h1] at hb;have:=hS.owns d _ b hd rfl hb;exact ⟨this.1,this.2,LE.sat_lt d _ rfl (hS.lhs d _ hd) hb⟩
theorem St.entry_entry (S:St) (n:Nat) (e1 e2:LE):(S.entry n e1).entry n e2=S.entry n e2:=by
 unfold St.entry;simp only [St.mk.injEq,Ro,RB];funext x;cases Nat.beq x n <;> rfl
theorem ob {lh:Nat->Option LE} {e:TypeId} {T:Ty} {a:AV} {n:Nat} {xs:List T.den} (h:a.rowOf lh e T=some (n,xs)):a=.own n/\lh n=some (.row e T xs):=by
 cases a <;> simp only [AV.rowOf,reduceCtorEq] at h;rename_i d;split at h <;> try cases h
 rename_i e' T' ys hd;split at h <;> try cases h
 rename_i hT;subst hT;split at h <;> simp only [Ps,Pv,reduceCtorEq] at h;rename_i he;have he:=Pw he;subst he;obtain ⟨rfl,rfl⟩:=h;exact ⟨rfl,hd⟩
theorem wd (hS:SatB M p0 w0 S a.tmps w p β) {r:RowFn} {n:Nat} {e0:LE} (hn:S.lh n=some e0) (he0:e0.live=true) {rest:List AV} {ys:List r.T.den} (h:zf S.lh r n rest=some ys)
  {vs:List Value} (hl:vs.length=rest.length) (hv:∀ (i:Nat) a' v,rest[i]?=some a'->vs[i]?=some v->a'.val p β a.tmps v) :
  ∃ v2 l2,vs=r.mid vs++(if r.tail then [v2] else [])/\w.ownsRow 0 r.e r.T.size v2 ys.length l2/\aM (r.T.holds p) ys l2/\∀ b,b8 (β n)=some b->b8 v2≠some b:=by
 unfold zf at h;split at h
 ·rename_i ht;injection h with h
  subst h;exact ⟨.slice none 0 0,[],by simp [RowFn.mid,ht],Rp w 0 r.e r.T.size,rfl,fun b _ h=>by cases h⟩
 ·rename_i b ht hb;split at h <;> try cases h
  rename_i m ys' hr;obtain ⟨rfl,hm⟩:=ob hr;split at h <;> simp only [Ps,reduceCtorEq] at h;rename_i hmn;subst h;obtain ⟨l2,k1,k2,k3⟩:=hS.lhs m _ hm
  have hne:vs≠[]:=by
   intro e;subst e;have:rest=[]:=PO (by simpa using hl.symm);rw [this] at hb;cases hb
  have hlast:vs.getLast hne=β m:=by
   have h1:rest[rest.length - 1]?=some (.own m):=by rw [<- List.getLast?_eq_getElem?]; exact hb
   have h2:vs[rest.length - 1]?=some (vs.getLast hne):=by rw [<- hl,<- List.getLast?_eq_getElem?,List.getLast?_eq_some_getLast hne]
   exact hv _ _ _ h1 h2
  refine ⟨β m,l2,?_,k1,k2,fun b hb1 hb2=>?_⟩
  ·simp only [RowFn.mid,ht,PZ,if_true];rw [<- hlast];exact (List.dropLast_concat_getLast hne).symm
  ·have:=hS.inj n m e0 _ b hn he0 hm rfl hb1 hb2;rw [this] at hmn;simp at hmn
 ·cases h
theorem Na {r:RowFn} {rest:List AV} {vs:List Value} (hl:vs.length=rest.length) (hv:∀ (i:Nat) a' v,rest[i]?=some a'->vs[i]?=some v->a'.val p β a.tmps v) :
  (r.mid vs).length=(r.mid rest).length/\∀ (i:Nat) a' v,(r.mid rest)[i]?=some a'->(r.mid vs)[i]?=some v->a'.val p β a.tmps v:=by
 unfold RowFn.mid;cases r.tail
 ·exact ⟨hl,hv⟩
 ·refine ⟨by simp [hl],fun i a' v h1 h2=>hv i a' v ?_ ?_⟩
  ·simp only [PZ] at h1;rw [List.dropLast_eq_take,List.getElem?_take] at h1;split at h1
   ·exact h1
   ·cases h1
  ·simp only [PZ] at h2;rw [List.dropLast_eq_take,List.getElem?_take] at h2;split at h2
   ·exact h2
   ·cases h2
theorem sK (hS:SatB M p0 w0 S a.tmps w p β) {ss:Specs} (hss:ss.okA P M w0) {o:Oper} {d:Nat} {f:FuncId} {x:Operand} {rest:List Operand} {args:Array Operand} {ts:Array TypeId} (hd:o.dst=some d)
  (ho:o.op=.call { callee:=.value (.func f),args,argTypes:=ts }) (ha:args.toList=x::rest) {r:RowFn} (hr:ss.row f=some (.row r)) (hcal:cT P f=true) {ps:List Prop} {S':St}
  (h:jC S d r (S.look [] x) (rest.map (S.look []))=some (ps,S')) (hps:∀ q∈ps,q):EOK M p0 w0 S' P o a w:=by
 have hx:=aU hS (aN _) x;have hrest:=iJ hS (aN _) rest;obtain ⟨p1,hle,hS1⟩:=bX ((r.mid (rest.map (S.look []))).flatMap AV.owns) S p hS;have hn1:(S.freeze ((r.mid (rest.map (S.look []))).flatMap AV.owns)).n=S.n:=(cN _ _).2.1;unfold jC at h;generalize S.freeze ((r.mid (rest.map (S.look []))).flatMap AV.owns)=S1 at *;split at h <;> try cases h
 rename_i n xs hxr;obtain ⟨hxn,hn⟩:=ob hxr;rw [hxn] at hx;have hxv:a.eval x=β n:=hx;split at h <;> try cases h
 rename_i ys y hty hy;split at h <;> simp only [Ps,Pv,reduceCtorEq] at h;rename_i hb;obtain ⟨rfl,rfl⟩:=h;simp only [Px] at hb;have hdn:=dc hb.2;obtain ⟨l,g1,g2,g3⟩:=hS1.lhs n _ hn;have hrest1:∀ (i:Nat) a' v,(rest.map (S.look []))[i]?=some a'->(rest.map a.eval)[i]?=some v->a'.val p1 β a.tmps v:=fun i a' v h1 h2=>AV.val_mono hle _ _ (hrest i a' v h1 h2)
 obtain ⟨v2,l2,q1,q2,q3,q4⟩:=wd hS1 hn rfl hty (vs:=rest.map a.eval) (by simp) hrest1;obtain ⟨m1,m2⟩:=Na (r:=r) (vs:=rest.map a.eval) (by simp) hrest1;have hargs:=rp hS1 r.Ts _ y (r.mid (rest.map a.eval)) hy m1 m2;simp only [PG,P5] at hargs;have hrb:=xh hS1 hn
 have htab:∀ b,(β n).ownBlock=some b->∀ k∈zg,k.1≠b:=by
  intro b hb k hk e;rcases (hrb b hb).1 with hM | hM
  ·exact hss.2.2 k hk (e ▸ hM)
  ·have h1:=Ak (hss.2.1 k hk);omega
 have hcalls:=(show r.ok P f from hss.1.2.2 f _ hr) p1 w (β n) xs l v2 ys l2 (r.mid (rest.map a.eval)) y (hss.2.1.keep hss.2.2 hS1.keep) htab hS1.agr g1 g2 g3 (fun b hb'=>(hrb b hb').2.1) q2 q3
  (fun b hb'=>by rw [<- dy q2]; exact q4 b (by rw [dy g1]; exact hb')) hargs (hps _ (by simp))
 intro K Q hK;unfold Oper.wp;rw [mA hcal ho];simp only [Rn]
 have ea:args.map a.eval=(β n::(r.mid (rest.map a.eval)++if r.tail then [v2] else [])).toArray:=by
  rw [<- q1];apply P6.1;rw [R3,ha];simp [hxv]
 rw [ea];refine hcalls.mono ?_;rintro ex w' ⟨v',l',rfl,hsame,hg,hown,hl',hbig,hnew⟩;have hS0:SatB M p0 w0 (S1.entry n .dead) a.tmps w p1 β:=hS1.entry trivial (fun b h=>by cases h) (fun d' e' b _ h=>by cases h)
 have hfree:∀ d' e' b,(S1.entry n .dead).lh d'=some e'->e'.live=true->(β n).ownBlock=some b->b8 (β d')≠some b:=by
  intro d' e'' b hd' hl2 hb' hb''
  have hne:d'≠n:=by
   intro e3;subst e3;simp only [St.entry,eu,PZ,Ps] at hd';subst hd';cases hl2
  simp only [St.entry,cg hne,PF] at hd';rw [<- dy g1] at hb';exact hne (hS1.inj d' n e'' _ b hd' hl2 hn rfl hb'' hb')
 cases hro:r.out
 ·rw [hro] at hK;simp only [PF] at hK;simp only [PG,P5];have hv':=hsame hro;subst hv';have hgrow:=tQ hS0 hg hrb hfree
  have hent:SatB M p0 w0 (S1.entry n (.row r.e r.T (r.F xs ys y))) a.tmps w' p1 β:=by
   rw [<- St.entry_entry S1 n .dead];refine hgrow.entry ⟨l',hown,hl',hbig⟩ (fun b _ hb'=>?_) (fun d' e' b hne _ hd' hl2 hb'=>?_)
   ·rw [dy hown] at hb';exact ⟨(hrb b hb').1,(hrb b hb').2.1⟩
   ·rw [dy hown] at hb';exact hfree d' e' b hd' hl2 hb'
  show K (a.put o.dst _) w';rw [hd];exact hK _ w' ⟨p1,β,hent.set (d:=d) (x:=.tuple #[]) (a:=.tnil) (by show d<S1.n; rw [hn1]; exact hdn) rfl⟩ rfl
 ·rw [hro] at hK;simp only [PZ] at hK;simp only [if_true];show K (a.put o.dst _) w';rw [hd];exact hK _ w' (xg hS0 (v:=β n) (by show d<S1.n; rw [hn1]; exact hdn) hown hl' hbig hg hnew hrb hfree) rfl
theorem sQ (hS:SatB M p0 w0 S a.tmps w p β) {ss:Specs} (hss:ss.okA P M w0) {o:Oper} {d:Nat} {f:FuncId} {x:Operand} {rest:List Operand} {args:Array Operand} {ts:Array TypeId} (hd:o.dst=some d)
  (ho:o.op=.call { callee:=.value (.func f),args,argTypes:=ts }) (ha:args.toList=x::rest) {r:BoxFn} (hr:ss.row f=some (.box r)) (hcal:cT P f=true) {ps:List Prop} {S':St}
  (h:jD S d r (S.look [] x) (rest.map (S.look []))=some (ps,S')) (hps:∀ q∈ps,q):EOK M p0 w0 S' P o a w:=by
 have hx:=aU hS (aN _) x;have hrest:=iJ hS (aN _) rest;unfold jD at h;split at h <;> try cases h
 rename_i n hxn;rw [hxn] at hx;obtain ⟨p1,hle,hS1⟩:=bX (dj S n++(rest.map (S.look [])).flatMap AV.owns) S p hS;have hn1:=(cN (dj S n++(rest.map (S.look [])).flatMap AV.owns) S).2.1;generalize S.freeze (dj S n++(rest.map (S.look [])).flatMap AV.owns)=S1 at *;split at h <;> try cases h
 rename_i c hn;split at h <;> try cases h
 rename_i x0 y hx0 hy;split at h <;> simp only [Ps,Pv,reduceCtorEq] at h;rename_i hb;obtain ⟨rfl,rfl⟩:=h;simp only [Px] at hb;have hdn:=dc hb.2;obtain ⟨b,cs,t,g1,g2,g3⟩:=hS1.lhs n _ hn
 have hxv:a.eval x=.pointer (some ⟨b,0,none⟩):=by
  obtain ⟨b',e1,e2⟩:=hx;rw [g1] at e1;injection e1 with e1
  injection e1 with e1
  injection e1 with e1
  rw [e2,e1]
 have hblk:b8 (β n)=some b:=by rw [g1]; rfl
 obtain ⟨hM,hpb⟩:=hS1.owns n _ b hn rfl hblk
 have hlt:b<w.heap.size:=by
  apply Qm;intro hge;rw [Array.getElem?_eq_none (Nat.le_of_not_lt hge)] at g2;cases g2
 have htab:∀ k∈zg,k.1≠b:=by
  intro k hk e;rcases hM with hM | hM
  ·exact hss.2.2 k hk (e ▸ hM)
  ·have h1:=Ak (hss.2.1 k hk);omega
 have hcells:=be hS1 (rows:=false) r.T c x0 cs.toList hx0 g3;simp only [PG,P5] at hcells;have hrest1:∀ (i:Nat) a' v,(rest.map (S.look []))[i]?=some a'->(rest.map a.eval)[i]?=some v->a'.val p1 β a.tmps v:=fun i a' v h1 h2=>AV.val_mono hle _ _ (hrest i a' v h1 h2)
 have hargs:=rp hS1 r.Ts _ y (rest.map a.eval) hy (by simp) hrest1;simp only [PG,P5] at hargs;have hcalls:=(show r.ok P f from hss.1.2.2 f _ hr) p1 w b cs t x0 (rest.map a.eval) y (hss.2.1.keep hss.2.2 hS1.keep) htab hS1.agr g2 hcells hpb hargs (hps _ (by simp));intro K Q hK;unfold Oper.wp;rw [mA hcal ho];simp only [Rn]
 have ea:args.map a.eval=(.pointer (some ⟨b,0,none⟩)::rest.map a.eval).toArray:=by
  apply P6.1;rw [R3,ha];simp [hxv]
 rw [ea];refine hcalls.mono ?_;rintro ex w' ⟨rs,q,cs',t',rfl,hg,hq1,hq2,hown,hcs',hv⟩;have hS0:SatB M p0 w0 (S1.entry n .dead) a.tmps w p1 β:=hS1.entry trivial (fun b h=>by cases h) (fun d' e' b _ h=>by cases h)
 have hfree:∀ d' e' b',(S1.entry n .dead).lh d'=some e'->e'.live=true->some b=some b'->b8 (β d')≠some b':=by
  intro d' e'' b' hd' hl2 hb' hb'';injection hb' with hb'
  subst hb'
  have hne:d'≠n:=by
   intro e3;subst e3;simp only [St.entry,eu,PZ,Ps] at hd';subst hd';cases hl2
  simp only [St.entry,cg hne,PF] at hd';exact hne (hS1.inj d' n e'' _ b hd' hl2 hn rfl hb'' hblk)
 have hgrow:=tQ hS0 (v:=.slice (some ⟨b,0,none⟩) 0 0) hg (fun b' e=>by injection e with e; subst e; exact ⟨hM,hpb,hlt⟩) (fun d' e' b' h1 h2 h3=>hfree d' e' b' h1 h2 h3);have hplt:∀ b cs,p1 b=some cs->b<w.heap.size:=fun b cs h=>hS1.agr.lt h
 have hqn:∀ b,b<w.heap.size->q b=none:=by
  intro b hb;cases hqb:q b with
  | none=>rfl
  | some c=>have:=hq1 b c hqb; omega
 have hmore:SatB M p0 w0 (S1.entry n .dead) a.tmps w' (p1.union q) β:=hgrow.more (eV p1 q) (jk hgrow.agr hq2) (fun b cs hb=>by
  unfold PH.union at hb;split at hb
  ·rename_i c hc;injection hb with hb
   subst hb;exact .inl hc
  ·exact .inr (.inl (P9 hS1.keep.size (hq1 b cs hb)))) (fun d' e' b hd hlv hb=>by
  have h1:=(hS0.owns d' e' b hd hlv hb).2;have h2:=LE.sat_lt d' e' hlv (hS0.lhs d' e' hd) hb;simp [PH.union,h1,hqn b h2])
 have hent:SatB M p0 w0 (S1.entry n (.cells (r.T.av (r.F x0 y).2))) a.tmps w' (p1.union q) β:=by
  rw [<- St.entry_entry S1 n .dead];refine hmore.entry ⟨b,cs',t',g1,hown,Ty.av_cells _ _ _ hcs'⟩ (fun b' _ hb'=>?_) (fun d' e' b' hne _ hd' hl2 hb'=>?_)
  ·rw [hblk] at hb';injection hb' with hb'
   subst hb';exact ⟨hM,by simp [PH.union,hpb,hqn _ hlt]⟩
  ·rw [hblk] at hb';exact hfree d' e' b' hd' hl2 hb'
 have hpq:∀ b,w.heap.size<=b->q b=none->(p1.union q) b=none:=by
  intro b hb hqb
  have:p1 b=none:=by
   cases hpb:p1 b with
   | none=>rfl
   | some c=>have:=hplt b c hpb; omega
  simp [PH.union,this,hqb]
 obtain ⟨β',k1,k2,_⟩:=oN (d:=d) hS1.keep.size (PH.le.refl _) (iN hplt hq1) hpq r.Rs 0 (r.F x0 y).1 rs [] _ β hent hv
  (fun d' e' b' hdd hlv hbl=>.inl (by
   by_cases hne:d'=n
   ·rw [hne,hblk] at hbl;injection hbl with hbl
    rw [<- hbl];exact hlt
   ·have hd':(S1.entry n .dead).lh d'=some e':=by
     simp only [St.entry,cg hne,PF] at hdd |-;exact hdd
    exact LE.sat_lt d' e' hlv (hS0.lhs d' e' hd') hbl))
 show K (a.put o.dst (cr rs)) w';rw [hd];refine hK _ w' ⟨_,β',k1.set (by rw [GB]; show d<S1.n; rw [hn1]; exact hdn) ?_⟩ rfl;exact qH (tm:=a.tmps.setIfInBounds d (cr rs)) d r.Rs _ rs k2
theorem wM (hS:SatB M p0 w0 S a.tmps w p β) {ss:Specs} (hss:ss.okA P M w0) {o:Oper} {d:Nat} {f:FuncId} {args:Array Operand} {ts:Array TypeId} (hd:o.dst=some d)
  (ho:o.op=.call { callee:=.value (.func f),args,argTypes:=ts }) {ps:List Prop} {S':St} (h:lP P ss S d f args.toList=some (ps,S')) (hps:∀ q∈ps,q):EOK M p0 w0 S' P o a w:=by
 unfold lP at h;split at h
 ·rename_i r hr;split at h <;> try cases h
  rename_i x rest ha;split at h <;> try cases h
  rename_i hcal;exact sK hS hss hd ho ha hr hcal h hps
 ·rename_i r hr;split at h <;> try cases h
  rename_i x rest ha;split at h <;> try cases h
  rename_i hcal;exact sQ hS hss hd ho ha hr hcal h hps
 obtain ⟨p1,hle,hS1,hn⟩:=AI (ss:=ss) (f:=f) hS args.toList;generalize fL ss S f args.toList=S1 at *;split at h <;> try cases h
 rename_i q0 Rs x he;split at h <;> simp only [Ps,Pv,reduceCtorEq] at h <;> obtain ⟨rfl,rfl⟩:=h;rename_i hb;simp only [Px] at hb;intro K Q hK;obtain ⟨hcal,hcalls⟩:=p6 hS1 hss he (hps _ (by simp)) (vs:=args.toList.map a.eval) (by simp) (iJ hS1 (aN _) args.toList) d;unfold Oper.wp;rw [mA hcal ho];simp only [Rn];have e:(args.toList.map a.eval).toArray=args.map a.eval:=by rw [<- R3,R6]
 rw [e] at hcalls;refine hcalls.mono ?_;rintro e w' ⟨rs,p',β',rfl,_,hS',hv,_⟩;show K (a.put o.dst (cr rs)) w';rw [hd];refine hK _ w' ⟨p',β',hS'.set (by rw [GB,hn]; exact dc hb.1) ?_⟩ rfl;have:=qH (tm:=a.tmps.setIfInBounds d (cr rs)) d Rs x rs hv;exact this
theorem vg (hS:SatB M p0 w0 S a.tmps w p β) {o:Oper} {d:Nat} {t:TypeId} {s x:Operand} (hd:o.dst=some d) (ho:o.op=.call { callee:=.builtin .append,args:=#[s,x],argTypes:=#[t,t] })
  {ps:List Prop} {S':St} (h:jU P S d t (S.look [] s) (S.look [] x)=some (ps,S')) (hps:∀ q∈ps,q):EOK M p0 w0 S' P o a w:=by
 have hs:=aU hS (aN _) s;have hx:=aU hS (aN _) x
 have fin:∀ {v':Value} {w':World},(Builtin.append_ #[t,t] o.type #[a.eval s,a.eval x]).run P w=.ok v' w'->Sat M p0 w0 S' (a.tmps.setIfInBounds d v') w'->EOK M p0 w0 S' P o a w:=by
  intro v' w' hr hsat;obtain ⟨cs,hb⟩:=d7 (a:=a) (w:=w) (P:=P) ho;refine EOK.of_run hd (v:=v') (w':=w') ?_ hsat;rw [hb];simp only [builtin,Rj,Qf,Rq,PR,hr,PL,P2]
 unfold jU at h;split at h <;> try cases h
 rename_i e he;have hu:=cJ he;split at h <;> try cases h
 rename_i T ys hys;obtain ⟨A,c,l2,e2,h2,h3,h4⟩:=i7 hS hys hx;split at h <;> try cases h
 rename_i hb;simp only [Px] at hb;have hdn:=dc hb.1.2;split at h
 ·rename_i hsn;rw [hsn] at hs;have hs':a.eval s=.slice none 0 0:=hs;simp only [Ps,Pv] at h;obtain ⟨rfl,rfl⟩:=h;have hbig:=hps _ (PV);obtain ⟨v',w',r1,r2,r3,r4⟩:=lW (ty:=o.type) hu hb.1.1 (Rp w 0 e T.size) h2 h4 (c:=c) (by simpa using hbig);refine fin (by rw [hs',e2]; exact r1) ?_;exact qn hS hdn (v:=.slice none 0 0) (by simpa using r2) (by simpa using h2) hbig r3 r4 (fun b hb'=>by cases hb') (fun d' e' b _ _ hb'=>by cases hb')
 ·rename_i d1 hsn;rw [hsn] at hs;have hs':a.eval s=β d1:=hs;split at h <;> try cases h
  rename_i e' T' xs iC;split at h <;> try cases h
  rename_i hT;subst hT;split at h <;> simp only [Ps,Pv,reduceCtorEq] at h <;> obtain ⟨rfl,rfl⟩:=h;rename_i hb2;simp only [Px] at hb2;have hee:=Pw hb2.1.1;subst hee;have hbig:=hps _ (PV);obtain ⟨l,g1,g2,g3⟩:=hS.lhs d1 _ iC;obtain ⟨v',w',r1,r2,r3,r4⟩:=lW (ty:=o.type) hu hb.1.1 g1 h2 h4 (c:=c) hbig;refine fin (by rw [hs',e2]; exact r1) ?_;have hS0:SatB M p0 w0 (S.entry d1 .dead) a.tmps w p β:=hS.entry trivial (fun b h=>by cases h) (fun d' e' b _ h=>by cases h);refine qn hS0 hdn (v:=β d1) (by simpa using r2) (cB _ _ _ _ g2 h2) (by simpa using hbig) r3 r4 (xh hS iC) (fun d' e'' b hd' hl' hb' hb''=>?_)
  have hne:d'≠d1:=by
   intro e3;subst e3;simp only [St.entry,eu,PZ,Ps] at hd';subst hd';cases hl'
  simp only [St.entry,cg hne,PF] at hd';rw [<- dy g1] at hb';exact hne (hS.inj d' d1 e'' _ b hd' hl' iC rfl hb'' hb')
 ·cases h
end
section
variable {M:Nat->Prop} {p0:PH} {w0:World} {S:St} {w:World} {p:PH} {β:Nat->Value} {P:Program} {a:Act}
theorem d8 {α:Type} {h:α->List Value->Prop} {x:α} {cs:List Value} (hx:h x cs):∀ n,aM h (List.replicate n x) (List.replicate n cs).flatten
 | 0=>rfl
 | n+1=>⟨cs,_,by simp [Rv],hx,d8 hx n⟩
theorem eM (z:Array Value) (hz:0<z.size):∀ n,(madeCells z (n * z.size)).toList=(List.replicate n z.toList).flatten:=by
 intro n;apply Rt;intro j
 have hl:((List.replicate n z.toList).flatten).length=n * z.size:=by
  induction n with
  | zero=>simp
  | succ n ih=>simp [Rv,ih,QR]; omega
 by_cases hj:j<n * z.size
 ·have h1:(madeCells z (n * z.size)).toList[j]?=some (z[j % z.size]'(Nat.mod_lt _ hz)):=by
   simp [madeCells,hj,Nat.mod_lt _ hz]
  rw [h1]
  have gen:∀ n j,j<n * z.size->((List.replicate n z.toList).flatten)[j]?=some (z[j % z.size]'(Nat.mod_lt _ hz)):=by
   intro n
   induction n with
   | zero=>intro j h; omega
   | succ n ih =>
    intro j h;simp only [Rv,List.flatten_cons,List.getElem?_append,QE];split
    ·rename_i h2;simp [h2,Nat.mod_eq_of_lt h2]
    ·rename_i h2;rw [QR] at h;rw [ih (j - z.size) (by omega)];congr 2;exact (Nat.mod_eq_sub_mod (by omega)).symm
  exact (gen n j hj).symm
 ·rw [List.getElem?_eq_none (by simp [QY]; omega),List.getElem?_eq_none (by omega)]
theorem oX {x y:Operand} (h:lC x y=true):a.eval x=a.eval y:=by
 unfold lC at h;split at h
 ·rename_i i j;have:=Pw h;subst this; rfl
 ·rename_i j n k m;simp only [Px,RP] at h;obtain ⟨rfl,rfl⟩:=h; rfl
 ·cases h
theorem Ap (hS:SatB M p0 w0 S a.tmps w p β) {o:Oper} {d:Nat} {t:TypeId} {l c:Operand} (hd:o.dst=some d) (ho:o.op=.makeSlice t l c) (hlc:lC l c=true)
  {ps:List Prop} {S':St} (h:oF P S d t (S.look [] l)=some (ps,S')) (hps:∀ q∈ps,q):EOK M p0 w0 S' P o a w:=by
 have hl:=aU hS (aN _) l;unfold oF at h;split at h <;> try cases h
 rename_i e he;have hu:=cJ he;split at h <;> try cases h
 rename_i T hT;split at h <;> try cases h
 rename_i i hi;split at h <;> try cases h
 rename_i z hz;split at h <;> try cases h
 rename_i _ _ y k n hy hav;rw [hav] at hl;split at h <;> simp only [Ps,Pv,reduceCtorEq] at h <;> obtain ⟨rfl,rfl⟩:=h;rename_i hb;simp only [Px] at hb;obtain ⟨i',z',hi',hsz,hby,hz',hzs⟩:=dB hb.1.1;rw [hi] at hi';injection hi' with hi'
 subst hi';rw [hz] at hz';injection hz' with hz'
 subst hz';have h0:0<=n:=hps _ (by simp);have hbig:n.toNat * T.bytes<=aF:=hps _ (by simp);obtain ⟨hle,_⟩:=ca hl;have hrc:a.eval c=.int k n:=by rw [<- oX hlc]; exact hle
 have h8:=fp T;have hn8:n.toNat * 8<=n.toNat * T.bytes:=Qu _ h8;have hnb:n.toNat * i.bytes<=n.toNat * T.bytes:=Qu _ hby
 have hbytes:(i.bytes:Int) * n<=281474976710656:=by
  have:((n.toNat * i.bytes:Nat):Int)=(i.bytes:Int) * n:=by rw [Int.natCast_mul,Rw h0,Int.mul_comm]
  rw [<- this];simp only [aF] at hbig;omega
 have hrun:=run_make (P:=P) w t e i z hu hi hz k k n n h0 (RQ _) hbytes (by simp only [aF] at hbig; omega)
 have hzc:z.cells.toList≠[]:=by
  intro e0;have:z.cells.size=0:=by simpa using congrArg List.length e0
  have:=Ty.size_pos T;omega
 have hyc:T.holds p y z.cells.toList:=by
  have hS0:SatB M p0 w0 { S with lh:=fun _=>none } a.tmps w p β :=
   ⟨hS.keep,hS.agr,hS.old,hS.size,fun d e h=>(by cases h),fun d e b h=>(by cases h),fun d d' e e' b h=>(by cases h),hS.env⟩
  have:=be hS0 (rows:=false) T _ y _ hy (cC _ hzc);simpa using this
 have hcells:(madeCells z.cells (n.toNat * i.size)).toList=(List.replicate n.toNat z.cells.toList).flatten:=by
  have hpos:0<z.cells.size:=by rw [hzs]; exact Ty.size_pos T
  rw [hsz,<- hzs];exact eM z.cells hpos n.toNat
 have hn:=hS.newEntry (cs:=madeCells z.cells (n.toNat * i.size)) (t:=e) (d:=d) (e:=.row e T (List.replicate n.toNat y)) (v:=.slice (some ⟨w.heap.size,0,none⟩) n.toNat n.toNat) rfl (by
  refine ⟨(madeCells z.cells (n.toNat * i.size)).toList,⟨by simp [QY,hsz],.inr ⟨w.heap.size,n.toNat,_,by simp,Qa _,QO w _,by simp,?_,by simp [QY,hsz],?_⟩⟩,?_,by simpa using hbig⟩
  ·simp only [maxLen,aF] at *; omega
  ·rw [PJ];simp [QY,hsz]
  ·rw [hcells];exact d8 hyc _)
 refine EOK.of_run hd (v:=.slice (some ⟨w.heap.size,0,none⟩) n.toNat n.toNat) (w':=w.alloc (.cells (madeCells z.cells (n.toNat * i.size)) e)) ?_ ⟨p,_,hn.set (dc hb.1.2) (show _=_ by simp)⟩;simp only [execOp,ho,PR,hle,hrc,hrun,PL,P2]
theorem oP {T:Ty} {y:T.den} {v:Value} (h:T.vholds p y v):T.holds p y v.cells.toList:=by
 cases T with
 | pair A B=>obtain ⟨cs,e,hc⟩:=h; rw [e]; exact hc
 | int k =>
  have h':(Ty.int k).holds p y [v]:=h;have e:=h'.1;injection e with e _
  rw [e] at h' |-;exact h'
 | bool =>
  have h':Ty.bool.holds p y [v]:=h;have e:[v]=[.bool y]:=h';injection e with e _
  rw [e] at h' |-;exact h'
 | str =>
  have h':Ty.str.holds p y [v]:=h;have e:=h'.1;injection e with e _
  rw [e] at h' |-;exact h'
 | arr T =>
  have h':(Ty.arr T).holds p y [v]:=h;have h2:=h';obtain ⟨A,c,l,e,_⟩:=h2;injection e with e _
  have:v.cells.toList=[v]:=by rw [e]; rfl
  rw [this];exact h'
 | nil =>
  have h':Ty.nil.holds p y [v]:=h;have e:[v]=[.slice none 0 0]:=h';injection e with e _
  rw [e] at h' |-;exact h'
 | ref T =>
  have h':(Ty.ref T).holds p y [v]:=h;have h2:=h';obtain ⟨b,o,l,e,_⟩:=h2;injection e with e _
  have:v.cells.toList=[v]:=by rw [e]; rfl
  rw [this];exact h'
 | fn A B =>
  have h':(Ty.fn A B).holds p y [v]:=h;have h2:=h';obtain ⟨f,v1,v2,e,_⟩:=h2;injection e with e _
  have:v.cells.toList=[v]:=by rw [e]; rfl
  rw [this];exact h'
 | map k V =>
  have h':(Ty.map k V).holds p y [v]:=h
  have:v.cells.toList=[v]:=by
   rcases h' with ⟨e,_⟩ | ⟨_,_,_,e,_⟩ <;> (injection e with e _; rw [e]; rfl)
  rw [this];exact h'
theorem oB {size:Nat} {T:Ty} (hT:T.size=size) {lh:Nat->Option LE} {ρ:Operand->AV} (hρ:∀ x y,(ρ x).toTy false lh T=some y->T.vholds p y (a.eval x)) :
  ∀ (parts:List (Nat×Operand)) (k:Nat) (ys:List T.den) (cur:Array Value),fF lh T ρ k parts=some ys->cur.size=(k+parts.length) * size ->
  ∃ cs l,Instr.fill (fun i=>some (i * size,size)) cur (parts.map fun x=>(x.1,a.eval x.2))=some cs/\aM (T.holds p) ys l/\cs.toList=cur.toList.take (k * size)++l/\ys.length=parts.length
 | [],k,ys,cur,h,hc=>by
  simp only [fF,Ps] at h;subst h;refine ⟨cur,[],rfl,rfl,?_,rfl⟩;rw [PJ (by simp; rw [hc]; simp),Qi]
 | (i,x)::rest,k,ys,cur,h,hc=>by
  simp only [fF] at h;split at h <;> try cases h
  rename_i hik;have hik:=Pw hik;subst hik;split at h <;> simp only [Ps,reduceCtorEq] at h;rename_i y ys' hy hys;subst h;have hv:=oP (hρ x y hy);have hsz:(a.eval x).cells.size=size:=by have:=Ty.holds_length T y _ hv; simpa [hT] using this
  have hlen:(a.eval x).cells.toList.length=size:=by simpa using hsz
  have hc':cur.size=i * size+size+rest.length * size:=by
   rw [hc,Pz,Ry,QR]; omega
  have hfs:=no (i * size) (a.eval x).cells.toList 0 cur (by rw [hlen]; omega);simp only [QU,hlen] at hfs
  obtain ⟨cs,l,h1,h2,h3,h4⟩:=oB hT hρ rest (i+1) ys' ((a.eval x).cells.toList.zipIdx.foldl (fun cs (x:Value×Nat)=>cs.setIfInBounds (i * size+x.2) x.1) cur) hys (by
   have e:∀ (A:Array Value),A.size=A.toList.length:=fun A=>by simp
   rw [e,hfs];simp only [PC,PM,PW,QE,hsz];rw [hc',Ry,QR];omega)
  refine ⟨cs,(a.eval x).cells.toList++l,?_,⟨_,l,rfl,hv,h2⟩,?_,by simp [h4]⟩
  ·simp only [Qf,Instr.fill]
   have hc2:¬ ((a.eval x).cells.size≠size||decide (i * size+(a.eval x).cells.size > cur.size))=true:=by
    simp [hsz]; omega
   rw [if_neg hc2];rw [<- h1];congr 1;rw [<- Array.foldl_toList];simp
  ·rw [h3,hfs,QR,iP]
   ·simp
   ·simp [hsz]; omega
theorem rg (hS:SatB M p0 w0 S a.tmps w p β) {o:Oper} {d:Nat} {t:TypeId} {len:Nat} {parts:Array (Nat×Operand)} (hd:o.dst=some d) (ho:o.op=.buildSlice t len parts)
  {ps:List Prop} {S':St} (h:lR P S d t len parts.toList=some (ps,S')):EOK M p0 w0 S' P o a w:=by
 unfold lR at h;split at h <;> try cases h
 rename_i e he;have hu:=cJ he;split at h <;> try cases h
 rename_i T hT;obtain ⟨p1,hle,hS1⟩:=bX ((parts.toList.map (fun x=>S.look [] x.2)).flatMap AV.owns) S p hS;have hn1:=(cN ((parts.toList.map (fun x=>S.look [] x.2)).flatMap AV.owns) S).2.1;simp only at h;generalize S.freeze ((parts.toList.map (fun x=>S.look [] x.2)).flatMap AV.owns)=S1 at *;split at h <;> try cases h
 rename_i ys hys;split at h <;> simp only [Ps,Pv,reduceCtorEq] at h <;> obtain ⟨rfl,rfl⟩:=h;rename_i hb;simp only [Px] at hb;obtain ⟨⟨⟨⟨⟨hf,hdn⟩,_⟩,hpl⟩,h24⟩,hbg⟩:=hb;have hpl:=Pw hpl;have h24:=PN h24;have hbg:=PN hbg;obtain ⟨i,z,hi,hsz,hby,hz,hzs⟩:=dB hf;have hTp:=Ty.size_pos T
 have hfill:=oB (p:=p1) (a:=a) (lh:=S1.lh) (ρ:=S1.look []) (T:=T) rfl (fun x y hy=>by
  have:=cP hS1 (rows:=false) hy (aU hS1 (aN _) x);simpa using this) parts.toList 0 ys ((Array.range (len * T.size)).map (z.cells[· % z.cells.size]!)) hys (by simp [<- hpl])
 obtain ⟨cs,l,h1,h2,h3,h4⟩:=hfill;simp only [Nat.zero_mul,Q5,P0] at h3;have hll:=c6 (fun x cs h=>Ty.holds_length T x cs h) ys l h2
 have hcs:cs.size=len * T.size:=by
  have:cs.toList.length=l.length:=by rw [h3]
  simp only [QE] at this;rw [this,hll,h4,hpl]
 have hlen:len=ys.length:=by omega
 have hn:=hS1.newEntry (cs:=cs) (t:=e) (d:=d) (e:=.row e T ys) (v:=.slice (some ⟨w.heap.size,0,none⟩) len len) rfl (by
  refine ⟨l,⟨hll,.inr ⟨w.heap.size,len,cs,by simp [hlen],Qa _,QO w _,by omega,?_,hcs,?_⟩⟩,h2,by rw [<- hlen]; exact hbg⟩
  ·have:=fp T;have h8:len * 8<=len * T.bytes:=Qu _ this;simp only [maxLen,aF] at *; omega
  ·rw [PJ (by simp [hcs,hlen]),h3])
 refine EOK.of_run hd (v:=.slice (some ⟨w.heap.size,0,none⟩) len len) (w':=w.alloc (.cells cs e)) ?_ ⟨p1,_,hn.set (by show d<S1.n; rw [hn1]; exact dc hdn) (show _=_ by simp)⟩
 have hrun:(Instr.buildSlice t len (parts.map fun x=>(x.1,a.eval x.2))).run P w=.ok (.slice (some ⟨w.heap.size,0,none⟩) len len) (w.alloc (.cells cs e)):=by
  have n24:¬ (len * i.size > 2 ^ 24):=by rw [hsz]; omega
  have e2:(parts.map fun x=>(x.1,a.eval x.2)).toList=parts.toList.map fun x=>(x.1,a.eval x.2):=by simp
  by_cases h0:len * i.size=0
  ·have hl0:len=0:=by
    rcases Nat.mul_eq_zero.1 h0 with h | h
    ·exact h
    ·omega
   subst hl0;have hp0:parts.toList=[]:=PO hpl;have hcs0:cs=#[]:=by apply P6.1; rw [h3]; exact PO (by rw [hll,<- hlen]; simp)
   subst hcs0;simp only [Instr.buildSlice,PR,PS hu,PL,sizeOf,typeInfo,Rd,hi,P2,if_neg n24,e2,hp0];simp [Instr.fill,newRow,Array.range_zero']
  ·simp only [Instr.buildSlice,PR,PS hu,PL,sizeOf,typeInfo,Rd,hi,P2,if_neg n24,if_neg h0,zeroValue,hz,e2];rw [hsz,h1];simp [newRow]
 simp only [execOp,ho,PR,hrun,PL,P2]
theorem yo {ρ:Operand->AV} {β:Nat->Value} (hρ:∀ x n off,ρ x=.loc n off->(AV.loc n off).one p β (a.eval x)) :
  ∀ (parts:List (Nat×Operand)) (k:Nat) (c:AV) (cur:Array Value),zK ρ k parts=some c->cur.size=k+parts.length ->
  ∃ cs l,Instr.fill (fun i=>some (i * 1,1)) cur (parts.map fun x=>(x.1,a.eval x.2))=some cs/\c.cells p β l/\cs.toList=cur.toList.take k++l/\l.length=parts.length
 | [],k,c,cur,h,hc=>by cases h
 | (i,x)::rest,k,c,cur,h,hc=>by
  simp only [zK] at h;split at h <;> try cases h
  rename_i n off hx;split at h <;> try cases h
  rename_i hik;have hik:=Pw hik;subst hik;have h1:=hρ x n off hx;obtain ⟨b,e1,e2⟩:=h1;have hcl:(a.eval x).cells=#[a.eval x]:=by rw [e2]; rfl
  have hfs:=no i [a.eval x] 0 cur (by simp only [Pz,P4] at hc |-; omega);simp only [QU,Pz,P4] at hfs;have hc':cur.size=i+1+rest.length:=by rw [hc,Pz]; omega
  have step:∀ cs,Instr.fill (fun i=>some (i * 1,1)) ([a.eval x].zipIdx.foldl (fun cs (x:Value×Nat)=>cs.setIfInBounds (i+x.2) x.1) cur) (rest.map fun x=>(x.1,a.eval x.2))=some cs ->
    Instr.fill (fun i=>some (i * 1,1)) cur (((i,x)::rest).map fun x=>(x.1,a.eval x.2))=some cs:=by
   intro cs h1;simp only [Qf,Instr.fill]
   have hc2:¬ ((a.eval x).cells.size≠1||decide (i * 1+(a.eval x).cells.size > cur.size))=true:=by
    simp [hcl]; omega
   rw [if_neg hc2];rw [<- h1];congr 1;rw [<- Array.foldl_toList,hcl];simp
  have hsz:([a.eval x].zipIdx.foldl (fun cs (x:Value×Nat)=>cs.setIfInBounds (i+x.2) x.1) cur).toList=cur.toList.take i++([a.eval x]++cur.toList.drop (i+1)):=by
   rw [hfs];simp
  have hone:(AV.loc n off).one p β (a.eval x):=⟨b,e1,e2⟩;cases rest with
  | nil =>
   simp only [Ps] at h;subst h;refine ⟨_,[a.eval x],step _ rfl,hone,?_,rfl⟩;rw [hsz,Rc (by simp [hc'])];simp
  | cons y rest =>
   simp only at h;split at h <;> simp only [Ps,reduceCtorEq] at h;rename_i c' hc'';subst h
   obtain ⟨cs,l,h1,h2,h3,h4⟩:=yo hρ (y::rest) (i+1) c' ([a.eval x].zipIdx.foldl (fun cs (x:Value×Nat)=>cs.setIfInBounds (i+x.2) x.1) cur) hc'' (by
    have e:∀ (A:Array Value),A.size=A.toList.length:=fun A=>by simp
    rw [e,hsz];simp only [PC,PM,PW,QE,Pz,P4];simp only [Pz] at hc';omega)
   refine ⟨cs,a.eval x::l,step _ h1,⟨hone,h2⟩,?_,by simp [h4]⟩;rw [h3,hsz];have hl:(cur.toList.take i++[a.eval x]).length=i+1:=by simp only [PC,PM,QE,Pz,P4]; omega
   rw [<- PT,iP _ _ _ hl.symm];simp
theorem p7 (hS:SatB M p0 w0 S a.tmps w p β) {o:Oper} {d:Nat} {t:TypeId} {len:Nat} {parts:Array (Nat×Operand)} (hd:o.dst=some d) (ho:o.op=.buildSlice t len parts)
  {ps:List Prop} {S':St} (h:kG P S d t len parts.toList=some (ps,S')):EOK M p0 w0 S' P o a w:=by
 unfold kG at h;split at h <;> try cases h
 rename_i e he;have hu:=cJ he;split at h <;> try cases h
 rename_i i hi;split at h <;> try cases h
 rename_i z c hz hc;split at h <;> simp only [Ps,Pv,reduceCtorEq] at h <;> obtain ⟨rfl,rfl⟩:=h;rename_i hb;simp only [Px] at hb;obtain ⟨⟨⟨⟨⟨hsz,hzs⟩,hpl⟩,hlen⟩,hdn⟩,_⟩:=hb;have hsz:=Pw hsz;have hzs:=Pw hzs;have hpl:=Pw hpl;have hlen:=PN hlen
 have hfill:=yo (p:=p) (a:=a) (β:=β) (ρ:=S.look []) (fun x n off hx=>by
  have:=aU hS (aN _) x;rw [hx] at this;exact this) parts.toList 0 c ((Array.range (len * 1)).map (z.cells[· % z.cells.size]!)) hc (by simp [<- hpl])
 obtain ⟨cs,l,h1,h2,h3,h4⟩:=hfill;simp only [Q5,P0] at h3;have h2':c.cells p β cs.toList:=by rw [h3]; exact h2
 have hpos:parts.toList≠[]:=by
  intro e0;rw [e0] at hc;cases hc
 have hlpos:0<len:=by
  rw [<- hpl];exact RI.2 hpos
 have hn:=hS.newEntry (cs:=cs) (t:=e) (d:=d) (e:=.cells (c.scrub (fun y=>Nat.beq y d))) (v:=.pointer (some ⟨w.heap.size,0,none⟩)) rfl
  ⟨w.heap.size,_,e,ln _ _ _,QO w _,l9 h2'⟩
 refine EOK.of_run hd (v:=.slice (some ⟨w.heap.size,0,none⟩) len len) (w':=w.alloc (.cells cs e)) ?_ ⟨p,_,hn.set (dc hdn) (.inl ⟨w.heap.size,len,ln _ _ _,PP _,rfl⟩)⟩
 have hrun:(Instr.buildSlice t len (parts.map fun x=>(x.1,a.eval x.2))).run P w=.ok (.slice (some ⟨w.heap.size,0,none⟩) len len) (w.alloc (.cells cs e)):=by
  have n24:¬ (len * i.size > 2 ^ 24):=by rw [hsz]; omega
  have h0:¬ (len * i.size=0):=by rw [hsz]; omega
  have e2:(parts.map fun x=>(x.1,a.eval x.2)).toList=parts.toList.map fun x=>(x.1,a.eval x.2):=by simp
  simp only [Instr.buildSlice,PR,PS hu,PL,sizeOf,typeInfo,Rd,hi,P2,if_neg n24,if_neg h0,zeroValue,hz,e2];rw [hsz,h1];simp [newRow]
 simp only [execOp,ho,PR,hrun,PL,P2]
theorem oJ (hS:SatB M p0 w0 S a.tmps w p β) {o:Oper} {d:Nat} {t:TypeId} {len:Nat} {parts:Array (Nat×Operand)} (hd:o.dst=some d) (ho:o.op=.buildSlice t len parts)
  {ps:List Prop} {S':St} (h:jx P S d t len parts.toList=some (ps,S')):EOK M p0 w0 S' P o a w:=by
 unfold jx at h;split at h
 ·rename_i r hr;injection h with h
  subst h;exact rg hS hd ho hr
 ·exact p7 hS hd ho h
theorem oM:∀ (xs:List Int) (l:List Value),aM ((Ty.int .u8).holds p) xs l->l=xs.map (Value.int .u8)
 | [],l,h=>h
 | x::xs,l,⟨c1,c2,e,h1,h2⟩=>by rw [e,h1.1,oM xs c2 h2]; rfl
theorem rf (hS:SatB M p0 w0 S a.tmps w p β) {o:Oper} {d:Nat} {src dst:TypeId} {x:Operand} (hd:o.dst=some d) (ho:o.op=.convert src dst x)
  {ps:List Prop} {S':St} (h:lQ P S d src dst (S.look [] x)=some (ps,S')):EOK M p0 w0 S' P o a w:=by
 have hx:=aU hS (aN _) x;unfold lQ at h;split at h <;> try cases h
 rename_i e hs hdst;split at h <;> try cases h
 rename_i he;split at h <;> try cases h
 rename_i xs hxs;split at h <;> simp only [Ps,Pv,reduceCtorEq] at h <;> obtain ⟨rfl,rfl⟩:=h;rename_i hdn
 have key:∃ A len c l,a.eval x=.slice A len c/\len=xs.length/\l=xs.map (Value.int .u8)/\xs.length * 8<=aF /\
   (xs≠[]->∃ b o,A=some ⟨b,o,none⟩/\∀ (j:Nat) (u:Value),l[j]?=some u->w.cell? ⟨b,o+j,none⟩=some u):=by
  unfold ta at hxs;split at hxs
  ·rename_i hav;rw [hav] at hx;injection hxs with hxs
   subst hxs;exact ⟨none,0,0,[],hx,rfl,rfl,by simp,fun h=>absurd rfl h⟩
  ·split at hxs
   ·rename_i xs' har;injection hxs with hxs
    subst hxs;obtain ⟨A,c,l,e1,h2,h3,h4⟩:=i7 hS har hx;exact ⟨A,_,c,l,e1,rfl,oM _ _ h2,h3,h4⟩
   ·cases hxs
 obtain ⟨A,len,c,l,e1,rfl,rfl,h3,h4⟩:=key
 have hrun:(convert src dst (a.eval x)).run P w=.ok (.string ⟨(iH xs).toArray⟩) w:=by
  rw [e1];by_cases hne:xs=[]
  ·subst hne;cases A with
   | none=>exact run_convert_bytes_nil w src e hs he _ _ dst hdst
   | some ad =>
    have:=run_convert_bytes_string (P:=P) w src dst e (some ad) 0 c hs he hdst;rw [show ([]:List Int).length=0 from rfl,this];have h5:=run_bytesToString (P:=P) w ad 0 c [] (by simp [loadCells,loadCellsFrom]);rw [h5]; rfl
  ·obtain ⟨b,o,rfl,hc⟩:=h4 hne
   have:=run_convert_bytes_arg (P:=P) w src e hs he b o xs.length c xs rfl (fun i hi=>by
    apply hc;simp [List.getD,hi]) dst hdst
   rw [this];simp [strOfNums,iH]
 refine EOK.of_run hd (v:=.string ⟨(iH xs).toArray⟩) (w':=w) ?_ ⟨p,β,hS.set (dc hdn) ⟨rfl,by simp only [iH,Qc,aF] at *; omega⟩⟩;simp only [execOp,ho,PR,hrun,PL,P2]
theorem DD {t:TypeId} {T:Ty} (h:gG P t T=true) (h1:T.size=1):∃ e,P.underlying t=some (.slice e)/\(P.info? e).map (·.size)=some 1:=by
 obtain ⟨e,inf,hu,hinf,hsz⟩:=fJ h;exact ⟨e,hu,by rw [hinf,Qb,hsz,h1]⟩
theorem As (hS:SatB M p0 w0 S a.tmps w p β) {o:Oper} {r:Nat} {t t':TypeId} {x y:Operand} (hd:o.dst=some r) (ho:o.op=.call { callee:=.builtin .copy,args:=#[x,y],argTypes:=#[t,t'] })
  {ps:List Prop} {S':St} (h:oI P S r t (S.look [] x) (S.look [] y)=some (ps,S')) (hps:∀ q∈ps,q):EOK M p0 w0 S' P o a w:=by
 have hx:=aU hS (aN _) x;have hy:=aU hS (aN _) y;unfold oI at h;split at h <;> try cases h
 rename_i d i n qs T' ys hsp hys;split at h <;> try cases h
 rename_i e T xs iC;split at h <;> try cases h
 rename_i hT;subst hT;split at h <;> simp only [Ps,Pv,reduceCtorEq] at h <;> obtain ⟨rfl,rfl⟩:=h;rename_i hb;simp only [Px] at hb;obtain ⟨⟨⟨⟨⟨hso,hel⟩,hs1⟩,_⟩,_⟩,hrn⟩:=hb;have hs1:=Pw hs1;have hin:i+n<=xs.length:=hps _ (by simp);obtain ⟨e',hu,hsz⟩:=DD hel hs1;obtain ⟨A,c,l2,e2,g2,g3,g4⟩:=AL hS hys (fun q hq=>hps q (by simp [hq])) hy;obtain ⟨l,k1,k2,k3⟩:=hS.lhs d _ iC
 have hv:∃ B n' c',a.eval x=.slice B n' c'/\n'=n/\(n=0\/∃ b m cc,β d=.slice (some ⟨b,0,none⟩) m cc/\B=some ⟨b,i,none⟩):=by
  unfold AV.span at hsp;split at hsp
  ·rename_i d' T1 i' n' hav;simp only [Ps,Pv] at hsp;obtain ⟨rfl,rfl,rfl⟩:=hsp;rw [hav] at hx hso;have hT1:T1=T':=Pt hso;subst hT1;rcases hx with ⟨b,m,cc,c',q1,q2⟩ | ⟨q1,B,c',q2⟩
   ·refine ⟨_,_,c',q2,rfl,.inr ⟨b,m,cc,q1,?_⟩⟩;rw [hs1,QH]
   ·exact ⟨B,0,c',q2,q1.symm,.inl q1⟩
  ·rename_i d' hav;split at hsp <;> simp only [Ps,Pv,reduceCtorEq] at hsp;rename_i _ _ xs' hd2;obtain ⟨rfl,rfl,rfl⟩:=hsp;rw [iC] at hd2;cases hd2;rw [hav] at hx;have hx':a.eval x=β d':=hx;rcases k1.2 with ⟨q1,q2⟩ | ⟨g,cap,cur,q1,_⟩
   ·exact ⟨none,0,0,hx'.trans q1,q2.symm,.inl q2⟩
   ·exact ⟨_,_,cap,hx'.trans q1,rfl,.inr ⟨g,_,cap,q1,rfl⟩⟩
  ·cases hsp
 obtain ⟨B,n',c',hxe,rfl,hB⟩:=hv
 have hm8:min ys.length n'<=140737488355328:=by
  have:=fp T';have h8:ys.length * 8<=ys.length * T'.bytes:=Qu _ this;simp only [aF] at g3;omega
 have fin:∀ {w':World},(Builtin.copy_ #[t,t'] o.type #[a.eval x,a.eval y]).run P w=.ok (goInt (min ys.length n':Nat)) w'->Sat M p0 w0 ((S.entry d (.row e T' (xs.take i++(ys.take (min ys.length n')++xs.drop (i+min ys.length n'))))).set r (.int .i64 ((min ys.length n':Nat):Int))) (a.tmps.setIfInBounds r (goInt (min ys.length n':Nat))) w'->EOK M p0 w0 ((S.entry d (.row e T' (xs.take i++(ys.take (min ys.length n')++xs.drop (i+min ys.length n'))))).set r (.int .i64 ((min ys.length n':Nat):Int))) P o a w:=by
  intro w' hr hsat;obtain ⟨cs,hbi⟩:=d7 (a:=a) (w:=w) (P:=P) ho;refine EOK.of_run hd (v:=goInt (min ys.length n':Nat)) (w':=w') ?_ hsat;rw [hbi];simp only [builtin,Rj,Qf,Rq,PR,hr,PL,P2]
 have setR:∀ {w':World},SatB M p0 w0 (S.entry d (.row e T' (xs.take i++(ys.take (min ys.length n')++xs.drop (i+min ys.length n'))))) a.tmps w' p β ->
   Sat M p0 w0 ((S.entry d (.row e T' (xs.take i++(ys.take (min ys.length n')++xs.drop (i+min ys.length n'))))).set r (.int .i64 ((min ys.length n':Nat):Int))) (a.tmps.setIfInBounds r (goInt (min ys.length n':Nat))) w' :=
  fun hs=>⟨p,β,hs.set (dc hrn) ⟨rfl,by simp only [am]; omega⟩⟩
 by_cases h0:min ys.length n'=0
 ·have hrun:=run_copy_none (P:=P) w t t' o.type e' B A n' c' ys.length c hu hsz h0;refine fin (w':=w) (by rw [hxe,e2,hrun,h0]; rfl) (setR ?_);have:xs.take i++(ys.take (min ys.length n')++xs.drop (i+min ys.length n'))=xs:=by rw [h0]; simp
  rw [this]
  have e3:S.entry d (.row e T' xs)=S:=by
   unfold St.entry
   have:(fun x=>bif Nat.beq x d then some (LE.row e T' xs) else S.lh x)=S.lh:=by
    funext x;cases hb:Nat.beq x d
    ·rfl
    ·rw [Pw hb,iC]; rfl
   rw [this]
  rw [e3];exact hS
 ·rcases hB with hB | ⟨b,m,cc,q1,rfl⟩
  ·omega
  have hne:ys≠[]:=by intro e0; rw [e0] at h0; simp at h0
  obtain ⟨b2,o2,rfl,hcell⟩:=g4 hne;rcases k1.2 with ⟨_,z0⟩ | ⟨g,cap,cur,q2,_,q3,q4,q4',q5,q6⟩
  ·omega
  rw [q1] at q2;injection q2 with q2 hm hcap
  injection q2 with q2
  injection q2 with q2
  subst q2;rw [hs1,QH] at q5 q6
  have hl2:l2.length=ys.length:=by
   have:=c6 (fun x cs h=>Ty.holds_length (p:=p) T' x cs h) ys l2 g2;rw [this,hs1,QH]
  have hll:l.length=xs.length:=by have:=k1.1; rw [hs1,QH] at this; exact this
  have hcs:(l2.take (min ys.length n')).length=min ys.length n':=by simp; omega
  have hrun:=run_copy_row (P:=P) w t t' o.type e' b i n' c' ⟨b2,o2,none⟩ ys.length c cur e (l2.take (min ys.length n')) hu hsz q3 hcs
   (fun j v hj=>by
    rw [List.getElem?_take] at hj;split at hj
    ·rw [fM]; exact hcell j v hj
    ·cases hj)
   (by rw [hcs,q5]; omega) (fun v hv=>fD (fun x cs h=>dA T' x cs h) ys l2 g2 v (QF hv))
  obtain ⟨f1,f2,f3,f4,f5,f6⟩:=cd w b (cur.toList.take i++l2.take (min ys.length n')++cur.toList.drop (i+(l2.take (min ys.length n')).length)).toArray q3;refine fin (by rw [hxe,e2,hrun,hcs]) (setR (hS.turn iC rfl (by rw [q1]; rfl) f2 f3 f4 f5 f6 ?_));have t1:=dw (fun x cs h=>Ty.holds_length (p:=p) T' x cs h) i xs l k2;have t2:=dw (fun x cs h=>Ty.holds_length (p:=p) T' x cs h) (min ys.length n') ys l2 g2;have t3:=eZ (fun x cs h=>Ty.holds_length (p:=p) T' x cs h) (i+min ys.length n') xs l k2;rw [hs1,QH] at t1 t2 t3;have hnew:(xs.take i++(ys.take (min ys.length n')++xs.drop (i+min ys.length n'))).length=xs.length:=by simp; omega
  refine ⟨l.take i++(l2.take (min ys.length n')++l.drop (i+min ys.length n')),⟨?_,.inr ⟨b,cap,_,?_,Qa _,f1,by omega,q4',?_,?_⟩⟩,cB _ _ _ _ t1 (cB _ _ _ _ t2 t3),by rw [hnew]; exact k3⟩
  ·rw [hnew,hs1,QH];simp;omega
  ·rw [q1,hm,hcap,hnew]
  ·simp only [Qx,PC,PM,PW,QE,hs1];omega
  ·rw [hnew,hs1,QH];have:=EJ cur.toList l (l2.take (min ys.length n')) (s:=min ys.length n') (n:=min ys.length n') (o1:=i) (off:=0) (N:=xs.length) q6 (by simp; omega) (by omega) (by omega) hcs;simp only [QU,Q5,P0,Qg] at this;rw [hcs];rw [this];simp
theorem na (z:Array Value) (n:Nat):Builtin.zeroCells z n=madeCells z (n * z.size):=rfl
theorem xe {t e:TypeId} {z:Value} (ht:P.underlying t=some (.slice e)) (hz:∀ w,(zeroValue e).run P w=.ok z w) (ty:TypeId) {b o n c:Nat} {cur:Array Value} {ct:TypeId} (hn:0<n)
  (hg:w.heap[b]?=some (.cells cur ct (0,0))) (h1:∀ u∈(madeCells z.cells (n * z.cells.size)).toList,u.oneCell'=true) (hfit:o+n * z.cells.size<=cur.size) :
  (Builtin.clear_ #[t] ty #[.slice (some ⟨b,o,none⟩) n c]).run P w =
   .ok (.tuple #[]) (w.setRow b (cur.toList.take o++(madeCells z.cells (n * z.cells.size)).toList++cur.toList.drop (o+n * z.cells.size)).toArray):=by
 have hsz:(madeCells z.cells (n * z.cells.size)).toList.length=n * z.cells.size:=by simp [QY]
 have hst:=run_storeCells_at P b o ct (madeCells z.cells (n * z.cells.size)).toList 0 cur w hg (by rw [hsz]; omega) h1;simp only [QU,hsz] at hst;obtain ⟨m,rfl⟩:∃ m,n=m+1:=⟨n - 1,by omega⟩;simp [Builtin.clear_,PS ht,hz,na,hst]
theorem wN (hS:SatB M p0 w0 S a.tmps w p β) {o:Oper} {t:TypeId} {x:Operand} (hd:o.dst=none) (ho:o.op=.call { callee:=.builtin .clear,args:=#[x],argTypes:=#[t] })
  {ps:List Prop} {S':St} (h:s8 P S t (S.look [] x)=some (ps,S')) (hps:∀ q∈ps,q):EOK M p0 w0 S' P o a w:=by
 have hx:=aU hS (aN _) x
 have fin:∀ {w':World},(Builtin.clear_ #[t] o.type #[a.eval x]).run P w=.ok (.tuple #[]) w'->Sat M p0 w0 S' a.tmps w'->EOK M p0 w0 S' P o a w:=by
  intro w' hr hsat K Q hK;obtain ⟨cs,hb⟩:=d7 (a:=a) (w:=w) (P:=P) ho
  have hrun:(execOp a.eval o).run P w=.ok (.value (.tuple #[])) w':=by
   rw [hb];simp only [builtin,Rj,Qf,Rq,PR,hr,PL,P2]
  unfold Oper.wp;rw [hrun,Oper.upon_value,hd];exact hK _ w' hsat rfl
 unfold s8 at h;split at h <;> try cases h
 rename_i d T i n hav;rw [hav] at hx;split at h <;> try cases h
 rename_i e T' xs iC;split at h <;> try cases h
 rename_i hT;subst hT;split at h <;> try cases h
 rename_i e' he';have hu:=cJ he';split at h <;> try cases h
 rename_i inf hinf;split at h <;> try cases h
 rename_i z hz;split at h <;> try cases h
 rename_i y hy;split at h <;> simp only [Ps,Pv,reduceCtorEq] at h;rename_i hb;obtain ⟨rfl,rfl⟩:=h;have hin:i+n<=xs.length:=hps _ (by simp)
 have hzc:z.cells.toList≠[]:=by
  intro e0;rw [e0] at hy;rw [show AV.ofCells ([]:List Value)=.any from rfl,kY] at hy;cases hy
 have hyc:T'.holds p y z.cells.toList:=by
  have hS0:SatB M p0 w0 { S with lh:=fun _=>none } a.tmps w p β :=
   ⟨hS.keep,hS.agr,hS.old,hS.size,fun d e h=>(by cases h),fun d e b h=>(by cases h),fun d d' e e' b h=>(by cases h),hS.env⟩
  have:=be hS0 (rows:=false) T' _ y _ hy (cC _ hzc);simpa using this
 have hzs:z.cells.size=T'.size:=by have:=Ty.holds_length _ _ _ hyc; simpa using this
 have hzr:∀ w,(zeroValue e').run P w=.ok z w:=by
  intro w;simp [zeroValue,typeInfo,hinf,hz]
 obtain ⟨l,k1,k2,k3⟩:=hS.lhs d _ iC
 have same:n=0->xs.take i++(List.replicate n y++xs.drop (i+n))=xs:=by
  intro h0;rw [h0];simp
 have nop:n=0->S.entry d (.row e T' (xs.take i++(List.replicate n y++xs.drop (i+n))))=S:=by
  intro h0;rw [same h0];unfold St.entry
  have:(fun x=>bif Nat.beq x d then some (LE.row e T' xs) else S.lh x)=S.lh:=by
   funext x;cases hb:Nat.beq x d
   ·rfl
   ·rw [Pw hb,iC]; rfl
  rw [this]
 by_cases h0:n=0
 ·have hv0:∃ A c,a.eval x=.slice A 0 c:=by
   rcases hx with ⟨b,m,c,c',_,q2⟩ | ⟨_,A,c,q2⟩
   ·exact ⟨_,_,by rw [q2,h0]⟩
   ·exact ⟨A,c,q2⟩
  obtain ⟨A,c,hv0⟩:=hv0;refine fin (w':=w) ?_ ?_
  ·rw [hv0];cases A <;> simp [Builtin.clear_,PS hu]
  ·rw [nop h0];exact ⟨p,β,hS⟩
 rcases hx with ⟨b,m,c,c',q1,q2⟩ | ⟨hn0,_⟩
 case inr=>exact absurd hn0 h0
 rcases k1.2 with ⟨_,z0⟩ | ⟨g,cap,cur,q3,_,q4,q5,q5',q6,q7⟩
 ·omega
 rw [q1] at q3;injection q3 with q3 hm hcap
 injection q3 with q3
 injection q3 with q3
 subst q3;have hll:l.length=xs.length * T'.size:=k1.1;have hmade:(madeCells z.cells (n * z.cells.size)).toList=(List.replicate n z.cells.toList).flatten:=eM z.cells (by rw [hzs]; exact Ty.size_pos T') n
 have hrep:aM (T'.holds p) (List.replicate n y) (madeCells z.cells (n * z.cells.size)).toList:=by
  rw [hmade];exact d8 hyc _
 have hfit1:(i+n) * T'.size<=xs.length * T'.size:=P8 _ hin;have hfit2:xs.length * T'.size<=cap * T'.size:=P8 _ q5;rw [Ry] at hfit1;have hmsz:(madeCells z.cells (n * z.cells.size)).toList.length=n * T'.size:=by simp [QY,hzs]
 have hrun:=xe (P:=P) (w:=w) (c:=c') hu hzr o.type (b:=b) (o:=i * T'.size) (n:=n) (cur:=cur) (ct:=e) (by omega) q4
  (fD (fun x cs h=>dA T' x cs h) _ _ hrep) (by rw [hzs]; omega)
 rw [hzs] at hrun hmsz hrep;obtain ⟨f1,f2,f3,f4,f5,f6⟩:=cd w b (cur.toList.take (i * T'.size)++(madeCells z.cells (n * T'.size)).toList++cur.toList.drop (i * T'.size+n * T'.size)).toArray q4;refine fin (by rw [q2]; exact hrun) ⟨p,β,hS.turn iC rfl (by rw [q1]; rfl) f2 f3 f4 f5 f6 ?_⟩;have t1:=dw (fun x cs h=>Ty.holds_length (p:=p) T' x cs h) i xs l k2;have t3:=eZ (fun x cs h=>Ty.holds_length (p:=p) T' x cs h) (i+n) xs l k2;have hnew:(xs.take i++(List.replicate n y++xs.drop (i+n))).length=xs.length:=by simp; omega
 refine ⟨l.take (i * T'.size)++((madeCells z.cells (n * T'.size)).toList++l.drop ((i+n) * T'.size)),⟨?_,.inr ⟨b,cap,_,?_,Qa _,f1,by omega,q5',?_,?_⟩⟩,cB _ _ _ _ t1 (cB _ _ _ _ hrep t3),by rw [hnew]; exact k3⟩
 ·rw [hnew,Ry];simp only [PC,PM,PW,hmsz];omega
 ·rw [q1,hm,hcap,hnew]
 ·simp only [Qx,PC,PM,PW,QE,hmsz];omega
 ·rw [hnew];have:=EJ cur.toList l (madeCells z.cells (n * T'.size)).toList (s:=n * T'.size) (n:=n * T'.size) (o1:=i * T'.size) (off:=0) (N:=xs.length * T'.size) q7 (by simp; omega) (by omega) (by omega) hmsz;simp only [QU,Q5,P0,Qg] at this;rw [this,Ry];simp
theorem oL (hS:SatB M p0 w0 S a.tmps w p β) {o:Oper} {d:Nat} {t t':TypeId} {s x:Operand} (hd:o.dst=some d) (ho:o.op=.call { callee:=.builtin .append,args:=#[s,x],argTypes:=#[t,t'] })
  {ps:List Prop} {S':St} (h:fc P S d t t' (S.look [] s) (S.look [] x)=some (ps,S')) (hps:∀ q∈ps,q):EOK M p0 w0 S' P o a w:=by
 have hs:=aU hS (aN _) s;have hx:=aU hS (aN _) x;unfold fc at h;split at h <;> try cases h
 rename_i e kn he hkn;have hu:=cJ he;split at h <;> try cases h
 rename_i T hT;split at h <;> try cases h
 rename_i i hi;split at h <;> try cases h
 rename_i z hz;split at h <;> try cases h
 rename_i _ _ _ y k n hy has hax;rw [has] at hs;rw [hax] at hx;split at h <;> simp only [Ps,Pv,reduceCtorEq] at h <;> obtain ⟨rfl,rfl⟩:=h;rename_i hb;simp only [Px] at hb;obtain ⟨i',z',hi',hsz,hby,hz',hzs⟩:=dB hb.1.1;rw [hi] at hi';injection hi' with hi'
 subst hi';rw [hz] at hz';injection hz' with hz'
 subst hz';have h0:0<n:=hps _ (by simp);have hbig:n.toNat * T.bytes<=aF:=hps _ (by simp);have hse:a.eval s=.slice none 0 0:=hs;obtain ⟨hxe,_⟩:=ca hx;have hxe:a.eval x=.int k ((n.toNat:Nat):Int):=by rw [hxe,Rw (by omega)]
 have h8:=fp T;have hTp:=Ty.size_pos T;have hn8:n.toNat * 8<=n.toNat * T.bytes:=Qu _ h8;have hnb:n.toNat * i.bytes<=n.toNat * T.bytes:=Qu _ hby;have hmx:n.toNat<=maxLen:=by simp only [maxLen,aF] at *; omega
 have hcapge:=grownCap_ge w (0+n.toNat) 0 e;have hcaple:=Sd w (0+n.toNat) 0 e (by simpa using hmx)
 have hns:Builtin.nextslicecap (0+n.toNat) 0 * i.bytes<=281474976710656:=by
  have:Builtin.nextslicecap (0+n.toNat) 0=n.toNat:=by
   unfold Builtin.nextslicecap;rw [if_pos (by omega),Qg]
  rw [this];simp only [aF] at hbig;omega
 have hrun:=Lib.run_append_grow_zeros (P:=P) w t t' o.type e i z k kn hu hkn hi hz none 0 0 [] (by simp [Builtin.firstCells]) n.toNat (by omega) (by rw [hsz]; exact hTp) (by omega) (by simp only [maxLen] at hmx; omega) (by simp only [aF] at hbig; omega) hns
 have hzc:z.cells.toList≠[]:=by
  intro e0;have:z.cells.size=0:=by simpa using congrArg List.length e0
  omega
 have hyc:T.holds p y z.cells.toList:=by
  have hS0:SatB M p0 w0 { S with lh:=fun _=>none } a.tmps w p β :=
   ⟨hS.keep,hS.agr,hS.old,hS.size,fun d e h=>(by cases h),fun d e b h=>(by cases h),fun d d' e e' b h=>(by cases h),hS.env⟩
  have:=be hS0 (rows:=false) T _ y _ hy (cC _ hzc);simpa using this
 generalize hcap:grownCap w (0+n.toNat) 0 e=cap at *
 have hcells:(Builtin.zeroCells z.cells n.toNat).toList=(List.replicate n.toNat z.cells.toList).flatten:=by
  rw [na];exact eM z.cells (by rw [hzs]; exact hTp) n.toNat
 have hcz:(Builtin.zeroCells z.cells n.toNat).size=n.toNat * T.size:=by rw [na,QY,hzs]
 have hn:=hS.drew.newEntry (cs:=([]:List Value).toArray++Builtin.zeroCells z.cells n.toNat++Builtin.zeroCells z.cells (cap - (0+n.toNat))) (t:=e) (d:=d) (e:=.row e T (List.replicate n.toNat y)) (v:=.slice (some ⟨w.heap.size,0,none⟩) (0+n.toNat) cap) rfl (by
  refine ⟨(Builtin.zeroCells z.cells n.toNat).toList,⟨by simp [hcz],.inr ⟨w.heap.size,cap,_,by simp,Qa _,QO w.drew _,by simpa using hcapge,hcaple,?_,?_⟩⟩,?_,by simpa using hbig⟩
  ·simp only [Array.size_append,na,QY,hzs];simp only [Qg] at hcapge;simp;rw [<- Ry];congr 1;omega
  ·simp only [Qd];rw [Array.toList_append,PQ (by simp [hcz])];rw [PJ (by simp [hcz])];simp
  ·rw [hcells];exact d8 hyc _)
 obtain ⟨cs,hbi⟩:=d7 (a:=a) (w:=w) (P:=P) ho;refine EOK.of_run hd (v:=.slice (some ⟨w.heap.size,0,none⟩) (0+n.toNat) cap) (w':=w.drew.alloc (.cells (([]:List Value).toArray++Builtin.zeroCells z.cells n.toNat++Builtin.zeroCells z.cells (cap - (0+n.toNat))) e)) ?_ ⟨p,_,hn.set (dc hb.1.2) (show _=_ by simp)⟩;rw [hbi];simp only [builtin,Rj,Qf,Rq,PR,hse,hxe,hrun,PL,P2]
theorem Du (hS:SatB M p0 w0 S a.tmps w p β) {o:Oper} {r:Nat} {t:TypeId} {x h':Operand} (hd:o.dst=some r) (ho:o.op=.slice t x none (some h') none)
  {ps:List Prop} {S':St} (h:vf P S r t (S.look [] x) (S.look [] h')=some (ps,S')) (hps:∀ q∈ps,q):EOK M p0 w0 S' P o a w:=by
 have hx:=aU hS (aN _) x;have hh:=aU hS (aN _) h';unfold vf at h;split at h <;> try cases h
 rename_i d k b hax hah;rw [hax] at hx;rw [hah] at hh;split at h <;> try cases h
 rename_i e T xs iC;split at h <;> simp only [Ps,Pv,reduceCtorEq] at h <;> obtain ⟨rfl,rfl⟩:=h;rename_i hb;simp only [Px] at hb;obtain ⟨⟨⟨hok,_⟩,hrn⟩,_⟩:=hb;have h0:0<=b:=hps _ (by simp);have h1:b<=(xs.length:Int):=hps _ (by simp);obtain ⟨e',inf,hu,hinf,hsz⟩:=fJ hok;obtain ⟨hbe,_⟩:=ca hh;have hbe:a.eval h'=.int k ((b.toNat:Nat):Int):=by rw [hbe,Rw h0]
 have hxe:a.eval x=β d:=hx;obtain ⟨l,k1,k2,k3⟩:=hS.lhs d _ iC;have hS0:SatB M p0 w0 (S.entry d .dead) a.tmps w p β:=hS.entry trivial (fun b h=>by cases h) (fun d' e' b _ h=>by cases h);have htake:(xs.take b.toNat).length=b.toNat:=by simp; omega
 have hrow:=dw (fun x cs h=>Ty.holds_length (p:=p) T x cs h) b.toNat xs l k2;have hbig':(xs.take b.toNat).length * T.bytes<=aF:=by rw [htake]; exact P9 (P8 _ (by omega)) k3
 have hll:=k1.1
 have key:∃ v,(Instr.sliceAt t (a.eval x) none (some (a.eval h')) none).run P w=.ok v w/\w.ownsRow 0 e T.size v (xs.take b.toNat).length (l.take (b.toNat * T.size))/\b8 v=b8 (β d):=by
  rw [htake];rcases k1.2 with ⟨q1,q2⟩ | ⟨g,cap,cur,q1,_,q3,q4,q4',q5,q6⟩
  ·have hz:xs.length=0:=q2;have hb0:b.toNat=0:=by omega
   refine ⟨_,by rw [hxe,q1,hbe]; exact gN hu hinf (l:=0) (h:=b.toNat) (Qa _) (len:=0) (cap:=0) (by omega) (PP _) (.inl ⟨rfl,rfl⟩) (.inr ⟨k,rfl⟩),?_,by rw [q1]; simp [b8]⟩;rw [hb0];simpa using Rp w 0 e T.size
  ·refine ⟨_,by rw [hxe,q1,hbe]; exact gN hu hinf (l:=0) (h:=b.toNat) (Qa _) (by omega) q4 (.inl ⟨rfl,rfl⟩) (.inr ⟨k,rfl⟩),?_,?_⟩
   ·have ea:(if cap=0 then (some ⟨g,0,none⟩:Option Addr) else (some (⟨g,0,none⟩:Addr)).map (·.add (0 * inf.size)))=some ⟨g,0,none⟩:=by
     split
     ·rfl
     ·simp [fM]
    rw [ea];refine ⟨by simp only [PM,hll]; rw [QP (P8 _ (by omega))],.inr ⟨g,cap,cur,by simp,Qa _,q3,by omega,q4',q5,?_⟩⟩;rw [<- q6,QQ,QP (P8 _ (by omega))]
   ·rw [q1];split
    ·rfl
    ·simp [fM,b8]
 obtain ⟨v,hrun,hown,hblk⟩:=key
 have hfresh:=hS0.fresh (d:=r) (e:=.row e T (xs.take b.toNat)) (v:=v) ⟨_,by simpa using hown,hrow,hbig'⟩
  (fun b' _ hb'=>by
   rw [hblk] at hb';exact hS.owns d _ b' iC rfl hb')
  (fun d' e'' b' _ _ hd' hl' hb' hb''=>by
   rw [hblk] at hb'
   have hne:d'≠d:=by
    intro e3;subst e3;simp only [St.entry,eu,PZ,Ps] at hd';subst hd';cases hl'
   simp only [St.entry,cg hne,PF] at hd';exact hne (hS.inj d' d e'' _ b' hd' hl' iC rfl hb'' hb'))
 refine EOK.of_run hd (v:=v) (w':=w) ?_ ⟨p,_,hfresh.set (dc hrn) (show v=_ by simp)⟩;simp only [execOp,ho,PR,Option.map_none,Qb,hrun,PL,P2]
theorem sO (hS:SatB M p0 w0 S a.tmps w p β) {o:Oper} {d:Nat} {t:TypeId} (hd:o.dst=some d) (ho:o.op=.makeMap t none) {ps:List Prop} {S':St}
  (h:np P S d t=some (ps,S')):EOK M p0 w0 S' P o a w:=by
 unfold np at h;split at h <;> try cases h
 rename_i k V _;split at h <;> simp only [Ps,Pv,reduceCtorEq] at h;rename_i hb;obtain ⟨rfl,rfl⟩:=h;simp only [Px] at hb
 have hs:(LE.mapp k V []).sat p (fun x=>if x=d then .map (some w.heap.size) else β x) (w.alloc (.map #[] 0)) d :=
  ⟨w.heap.size,#[],0,by simp,(MapKept.heap_alloc w _).1,⟨by simp,by simp⟩,rfl⟩
 have hn:=hS.newObj (d:=d) (v:=.map (some w.heap.size)) rfl hs;refine EOK.of_run hd (v:=.map (some w.heap.size)) (w':=w.alloc (.map #[] 0)) ?_ ⟨p,_,hn.set (dc hb.1) (show _=_ by simp)⟩;simp only [execOp,ho,PR,Option.map_none];rfl
theorem wK (hS:SatB M p0 w0 S a.tmps w p β) {o:Oper} {d:Nat} {t:TypeId} {x:Operand} (hd:o.dst=some d) (ho:o.op=.range t x) {ps:List Prop} {S':St}
  (h:s6 P S d t (S.look [] x)=some (ps,S')):EOK M p0 w0 S' P o a w:=by
 have hxv:=aU hS (aN _) x;unfold s6 at h;split at h <;> try cases h
 rename_i kt e m hu hx;rw [hx] at hxv;split at h <;> try cases h
 rename_i k V l hm;split at h <;> simp only [Ps,Pv,reduceCtorEq] at h;rename_i hb;obtain ⟨rfl,rfl⟩:=h;simp only [Px] at hb;obtain ⟨p',g,es,clock,_,e1,e2,e3,e4,e5,hS1⟩:=hS.frozeMap hm
 have hn:=hS1.newObj (o:=.mapIter (some g) clock #[] clock) (d:=d) (e:=.iter k V l none) (v:=.pointer (some ⟨w.heap.size,0,none⟩)) rfl
  ⟨w.heap.size,g,clock,#[],clock,es,clock,by simp,QO _ _,e4,e3,e3.2,PP _,PP _,by
   have:leftOf es #[]=es:=by simp [leftOf]
   rw [this];exact e5,fun x hx=>by cases hx⟩
 have hxe:a.eval x=.map (some g):=by
  have h9:a.eval x=β m:=hxv;rw [h9,e1]
 refine EOK.of_run hd (v:=.pointer (some ⟨w.heap.size,0,none⟩)) (w':=w.alloc (.mapIter (some g) clock #[] clock)) ?_ ⟨p',_,hn.set (dc hb.1.1) ⟨w.heap.size,by simp,rfl⟩⟩;simp only [execOp,ho,hxe,PR,run_range_map w t kt e g es clock hu e2,PL,P2]
theorem nK {t kt e:TypeId} {k:IntKind} (hu:P.underlying t=some (.map kt e)) (hku:P.underlying kt=some (.int k)) {g:Nat} {es:Array MapEntry} {clock:Nat} (hg:w.heap[g]?=some (.map es clock)) (hst:jz es clock) {α:Type} {hh:α->Value->Prop} {m:List (Int×α)}
  (hm:cq k hh m es.toList) {n:Int} (hn:am k n) {y:α} {v:Value} (hv:hh y v) :
  ∃ es' clock',(Instr.mapUpdate t (.map (some g)) (.int k n) v).run P w=.ok () { w with heap:=w.heap.setIfInBounds g (.map es' clock') }/\jz es' clock'/\cq k hh (cR m n y) es'.toList:=by
 rcases jw hn m es.toList 0 hm with ⟨_,g2,g3⟩ | ⟨x,j,e0,_,g2,g3,g4,_,g6⟩
 ·refine ⟨es.push { key:=.int k n,val:=v,born:=clock },clock+1,?_,⟨?_,?_⟩,?_⟩
  ·simp [Instr.mapUpdate,PS hu,Rb hg,cV hku,dn hku g2,MapKept.run_setObj_map _ hg]
  ·simp only [Array.toList_push,Qn,Qf,Rq];refine RC.2 ⟨hst.1,by simp,fun a ha b hb=>?_⟩;simp only [PB] at hb;subst hb;obtain ⟨x,hx,rfl⟩:=P3.1 ha;exact hst.2 x hx
  ·intro x hx;simp only [Array.toList_push,PI,PB] at hx;rcases hx with hx | rfl
   ·have:=hst.2 x hx; omega
   ·simp
  ·rw [Array.toList_push];exact g3 y v clock hv
 ·have hj:es[j]?=some e0:=by simpa using g3
  refine ⟨es.modify j fun e=>{ e with key:=.int k n,val:=v },clock,?_,?_,?_⟩
  ·have g2':Instr.findNow (.int k) (.int k n) es.toList 0=some (some (j,e0.val)):=by rw [g2]; simp
   have hk:(Instr.keyThatStays (((es[j]?).map (·.key)).getD (.int k n)) (.int k n)).run P w=.ok (.int k n) w:=by
    simp [hj,g4,Instr.keyThatStays,Instr.sameBits]
   simp only [Instr.mapUpdate,PR,PS hu,PL,Rb hg,cV hku,dn hku g2',hk,MapKept.run_setObj_map _ hg]
  ·have hborn:(es.modify j fun e=>{ e with key:=.int k n,val:=v }).toList.map (·.born)=es.toList.map (·.born):=by
    apply Rt;intro i;simp only [List.getElem?_map,Array.getElem?_toList,Array.getElem?_modify];by_cases hij:j=i
    ·subst hij; simp [hj]
    ·simp [hij]
   refine ⟨by rw [hborn]; exact hst.1,fun x hx=>?_⟩;have:x.born∈(es.modify j fun e=>{ e with key:=.int k n,val:=v }).toList.map (·.born):=P3.2 ⟨x,hx,rfl⟩;rw [hborn] at this;obtain ⟨z,hz,e⟩:=P3.1 this;rw [<- e];exact hst.2 z hz
  ·have:(es.modify j fun e=>{ e with key:=.int k n,val:=v }).toList=es.toList.modify j fun e=>{ e with key:=.int k n,val:=v }:=by simp
   rw [this];exact g6 y v hv
theorem wx {t kt e:TypeId} {k:IntKind} (hu:P.underlying t=some (.map kt e)) (hku:P.underlying kt=some (.int k)) {g:Nat} {es:Array MapEntry} {clock:Nat} (hg:w.heap[g]?=some (.map es clock)) (hst:jz es clock) {n:Int} {v:Value} {j:Nat} {e0:MapEntry}
  (hj:es[j]?=some e0) (g2':Instr.findNow (.int k) (.int k n) es.toList 0=some (some (j,e0.val))) (g4:e0.key=.int k n) :
  (Instr.mapUpdate t (.map (some g)) (.int k n) v).run P w=.ok () { w with heap:=w.heap.setIfInBounds g (.map (es.modify j fun e=>{ e with key:=.int k n,val:=v }) clock) }/\jz (es.modify j fun e=>{ e with key:=.int k n,val:=v }) clock:=by
 refine ⟨?_,?_⟩
 ·have hk:(Instr.keyThatStays (((es[j]?).map (·.key)).getD (.int k n)) (.int k n)).run P w=.ok (.int k n) w:=by
   simp [hj,g4,Instr.keyThatStays,Instr.sameBits]
  simp only [Instr.mapUpdate,PR,PS hu,PL,Rb hg,cV hku,dn hku g2',hk,MapKept.run_setObj_map _ hg]
 ·have hborn:(es.modify j fun e=>{ e with key:=.int k n,val:=v }).toList.map (·.born)=es.toList.map (·.born):=by
   apply Rt;intro i;simp only [List.getElem?_map,Array.getElem?_toList,Array.getElem?_modify];by_cases hij:j=i
   ·subst hij; simp [hj]
   ·simp [hij]
  refine ⟨by rw [hborn]; exact hst.1,fun x hx=>?_⟩;have:x.born∈(es.modify j fun e=>{ e with key:=.int k n,val:=v }).toList.map (·.born):=P3.2 ⟨x,hx,rfl⟩;rw [hborn] at this;obtain ⟨z,hz,e⟩:=P3.1 this;rw [<- e];exact hst.2 z hz
theorem nG {V:Ty} {k:IntKind} {c c':AV}:∀ (m:List (Int×Option V.den)) (es:List MapEntry),(∀ e∈m,e.2≠none)->cq k (iU p β V c) m es->cq k (iU p β V c') m es
 | [],_,_,h=>h
 | x::m,_,hn,⟨e,es',e1,h1,h2,h3,h4⟩=>by
  refine ⟨e,es',e1,h1,h2,?_,nG m es' (fun y hy=>hn y (by simp [hy])) h4⟩;cases hx:x.2 with
  | none=>exact absurd hx (hn x (by simp))
  | some y=>rw [hx] at h3; exact h3
theorem nF {V:Ty} {k:IntKind} {c:AV}:∀ (m:List (Int×V.den)) (es:List MapEntry),cq k (fun x v=>fv V (V.holds p x) v) m es->cq k (iU p β V c) (m.map fun e=>(e.1,some e.2)) es
 | [],_,h=>h
 | _::m,_,⟨e,es',e1,h1,h2,h3,h4⟩=>⟨e,es',e1,h1,h2,h3,nF m es' h4⟩
theorem mG {V:Ty} {k:IntKind} {c:AV} {y:V.den} (hy:∀ v,c.one p β v->fv V (V.holds p y) v):∀ (m:List (Int×Option V.den)) (es:List MapEntry),cq k (iU p β V c) m es->cq k (fun x v=>fv V (V.holds p x) v) (m.map fun e=>(e.1,e.2.getD y)) es
 | [],_,h=>h
 | x::m,_,⟨e,es',e1,h1,h2,h3,h4⟩=>by
  refine ⟨e,es',e1,h1,h2,?_,mG hy m es' h4⟩;show fv V (V.holds p (x.2.getD y)) e.val;cases hx:x.2 with
  | none=>rw [hx] at h3; exact hy _ h3
  | some z=>rw [hx] at h3; exact h3
theorem pu {V:Ty} {k:IntKind} {c:AV} {n:Int} (hn:am k n):∀ (m:List (Int×Option V.den)) (es:List MapEntry) (i:Nat),cq k (iU p β V c) m es->aC m n=some none->Lh m ->
  ∃ j e0,Instr.findNow (.int k) (.int k n) es i=some (some (i+j,e0.val))/\es[j]?=some e0/\e0.key=.int k n/\∀ (v:Value) (c':AV),c'.one p β v->cq k (iU p β V c') m (es.modify j fun e=>{ e with key:=.int k n,val:=v })
 | [],_,_,_,h,_=>by cases h
 | x::m,_,i,⟨e,es',e1,h1,h2,h3,h4⟩,hg,hl=>by
  subst e1;by_cases hx:x.1=n
  ·subst hx;simp only [aC,if_true,Ps] at hg;refine ⟨0,e,by simp [Instr.findNow,Instr.sameNow,h1],rfl,h1,fun v c' hv=>?_⟩;refine ⟨_,es',rfl,rfl,hn,?_,nG m es' (hl.1 hg) h4⟩;rw [hg];exact hv
  ·have hs:Instr.sameNow (.int k) (.int k n) e.key=some false:=by
    rw [h1];simp only [Instr.sameNow,if_true,Ps,beq_eq_false_iff_ne];exact fun e=>hx e.symm
   simp only [aC,if_neg hx] at hg;obtain ⟨j,e0,q1,q2,q3,q4⟩:=pu hn m es' (i+1) h4 hg hl.2;refine ⟨j+1,e0,?_,by simpa using q2,q3,fun v c' hv=>⟨e,_,by simp,h1,h2,?_,q4 v c' hv⟩⟩
   ·simp only [Instr.findNow,hs,q1];congr 3;omega
   ·cases hx2:x.2 with
    | some y=>rw [hx2] at h3; exact h3
    | none =>
     exfalso
     have:∃ e'∈m,e'.2=none:=by
      clear h1 h2 h3 h4 hs q1 q2 q3 q4 hl
      induction m with
      | nil=>cases hg
      | cons z m ih =>
       simp only [aC] at hg;split at hg
       ·exact ⟨z,by simp,QJ hg⟩
       ·obtain ⟨w,hw,e⟩:=ih hg;exact ⟨w,by simp [hw],e⟩
     obtain ⟨e',he',h0⟩:=this;exact hl.1 hx2 e' he' h0
theorem qN {α:Type} (n:Int):∀ (m:List (Int×α)),Lh (cR (m.map fun e=>(e.1,some e.2)) n none)/\aC (cR (m.map fun e=>(e.1,some e.2)) n none) n=some none
 | []=>⟨⟨fun _ _ h=>(by cases h),trivial⟩,by simp [cR,aC]⟩
 | x::m=>by
  have ih:=qN n m;simp only [Qf,cR];split
  ·refine ⟨⟨fun _ e' he'=>?_,?_⟩,by simp [aC]⟩
   ·obtain ⟨z,_,rfl⟩:=P3.1 he';simp
   ·have:∀ (l:List (Int×α)),Lh (l.map fun e=>(e.1,some e.2)):=by
     intro l
     induction l with
     | nil=>trivial
     | cons z l ih=>exact ⟨fun h=>(by cases h),ih⟩
    exact this m
  ·rename_i hne;exact ⟨⟨fun h=>(by cases h),ih.1⟩,by simp only [aC]; rw [if_neg hne]; exact ih.2⟩
theorem r8 {tm:Array Value} {c:AV} {v:Value} (hl:c.leafB=true) (h:c.val p β tm v):c.one p β v:=by
 cases c <;> first | exact h | cases hl
theorem sL (hS:SatB M p0 w0 S a.tmps w p β) {o:Oper} {t:TypeId} {m x v:Operand} (hd:o.dst=none) (ho:o.op=.mapUpdate t m x v\/o.op=.insert t m x v) {ps:List Prop} {S':St}
  (h:eQ P S t (S.look [] m) (S.look [] x) (S.look [] v)=some (ps,S')) (hps:∀ q∈ps,q):EOK M p0 w0 S' P o a w:=by
 have hmv:=aU hS (aN _) m;have hxv:=aU hS (aN _) x;have hvv:=aU hS (aN _) v;unfold eQ at h;split at h <;> try cases h
 rename_i k kt e d kq n hk hm hx;obtain ⟨hu,hku⟩:=iX hk;rw [hm] at hmv;rw [hx] at hxv;obtain ⟨hxe,hn⟩:=ca hxv;split at h <;> try cases h
 rename_i k'' V l x0 c iC;split at h <;> try cases h
 rename_i hkk;obtain ⟨rfl,rfl⟩:=hkk;split at h
 ·cases h
 split at h <;> simp only [Ps,Pv,reduceCtorEq] at h;rename_i hlf;obtain ⟨rfl,rfl⟩:=h;have hnx:n=x0:=hps _ (by simp);subst hnx;have hone:=r8 hlf hvv;obtain ⟨g,es,clock,g1,g2,g3,⟨g4,g6⟩,g5⟩:=hS.lhs d _ iC
 have hme:a.eval m=.map (some g):=by
  have h9:a.eval m=β d:=hmv;rw [h9,g1]
 obtain ⟨j,e0,q1,q2,q3,q4⟩:=pu hn l es.toList 0 g5 g4 g6;obtain ⟨hrun,hst'⟩:=wx (v:=a.eval v) hu hku g2 g3 (by simpa using q2) (by rw [q1]; simp) q3;have hset:=MapKept.heap_set (w:=w) (r:=g) (o':=.map (es.modify j fun e=>{ e with key:=.int k'' n,val:=a.eval v }) clock) g2
 have hturn:=hS.turn (d:=d) (e':=.mapo k'' V l n (S.look [] v)) (w':={ w with heap:=w.heap.setIfInBounds g (.map (es.modify j fun e=>{ e with key:=.int k'' n,val:=a.eval v }) clock) }) iC rfl (by rw [g1]; rfl) rfl rfl rfl (by simp) (fun i hi=>hset.2 i hi)
  ⟨g,_,clock,g1,hset.1,hst',⟨g4,g6⟩,by
   have:=q4 (a.eval v) _ hone;have e9:(es.modify j fun e=>{ e with key:=.int k'' n,val:=a.eval v }).toList=es.toList.modify j fun e=>{ e with key:=.int k'' n,val:=a.eval v }:=by simp
   rw [e9];exact this⟩
 exact gO hd (s:=Instr.mapUpdate t (a.eval m) (a.eval x) (a.eval v)) (by rcases ho with ho | ho <;> simp only [execOp,ho]) (by rw [hme,hxe]; exact hrun) ⟨p,β,hturn⟩
theorem sN (hS:SatB M p0 w0 S a.tmps w p β) {o:Oper} {t:TypeId} {m x v:Operand} (hd:o.dst=none) (ho:o.op=.mapUpdate t m x v\/o.op=.insert t m x v) {ps:List Prop} {S':St}
  (h:lr P S t (S.look [] m) (S.look [] x) (S.look [] v)=some (ps,S')):EOK M p0 w0 S' P o a w:=by
 have hmv:=aU hS (aN _) m;have hxv:=aU hS (aN _) x;have hvv:=aU hS (aN _) v;unfold lr at h;split at h <;> try cases h
 rename_i k kt e d kq n hk hm hx;obtain ⟨hu,hku⟩:=iX hk;rw [hm] at hmv;rw [hx] at hxv;obtain ⟨hxe,hn⟩:=ca hxv;split at h <;> try cases h
 rename_i k'' V l iC;split at h <;> try cases h
 rename_i hkk;obtain ⟨rfl,rfl⟩:=hkk;split at h
 ·cases h
 split at h <;> simp only [Ps,Pv,reduceCtorEq] at h;rename_i hlf;obtain ⟨rfl,rfl⟩:=h;have hone:=r8 hlf hvv;obtain ⟨g,es,clock,g1,g2,g3,g4⟩:=hS.lhs d _ iC
 have hme:a.eval m=.map (some g):=by
  have h9:a.eval m=β d:=hmv;rw [h9,g1]
 obtain ⟨es',clock'',hrun,hst',hm'⟩:=nK (hh:=iU p β V (S.look [] v)) hu hku g2 g3 (nF l es.toList g4) hn (y:=none) hone;have hset:=MapKept.heap_set (w:=w) (r:=g) (o':=.map es' clock'') g2
 have hturn:=hS.turn (d:=d) (e':=.mapo k'' V (cR (l.map fun e=>(e.1,some e.2)) n none) n (S.look [] v)) (w':={ w with heap:=w.heap.setIfInBounds g (.map es' clock'') }) iC rfl (by rw [g1]; rfl) rfl rfl rfl (by simp) (fun i hi=>hset.2 i hi)
  ⟨g,es',clock'',g1,hset.1,hst',⟨(qN n l).2,(qN n l).1⟩,hm'⟩
 exact gO hd (s:=Instr.mapUpdate t (a.eval m) (a.eval x) (a.eval v)) (by rcases ho with ho | ho <;> simp only [execOp,ho]) (by rw [hme,hxe]; exact hrun) ⟨p,β,hturn⟩
theorem sM (hS:SatB M p0 w0 S a.tmps w p β) {o:Oper} {t:TypeId} {m x v:Operand} (hd:o.dst=none) (ho:o.op=.mapUpdate t m x v\/o.op=.insert t m x v) {ps:List Prop} {S':St}
  (h:gY P S t (S.look [] m) (S.look [] x) (S.look [] v)=some (ps,S')):EOK M p0 w0 S' P o a w:=by
 have hmv:=aU hS (aN _) m;have hxv:=aU hS (aN _) x;have hvv:=aU hS (aN _) v;unfold gY at h;split at h <;> try cases h
 rename_i k kt e d k' n hk hm hx;obtain ⟨hu,hku⟩:=iX hk;rw [hm] at hmv;rw [hx] at hxv;obtain ⟨hxe,hn⟩:=ca hxv;obtain ⟨p1,hle,hS1⟩:=bX (S.look [] v).owns S p hS;have hvv:=AV.val_mono hle _ _ hvv;split at h <;> try cases h
 rename_i k'' V l iC;split at h <;> try cases h
 rename_i hkk;obtain ⟨rfl,rfl⟩:=hkk;split at h
 ·cases h
 split at h <;> simp only [Ps,Pv,reduceCtorEq] at h;rename_i y hy;obtain ⟨rfl,rfl⟩:=h;have hyv:=cP hS1 (rows:=false) hy hvv;simp only [PG,P5] at hyv;obtain ⟨g,es,clock,g1,g2,g3,g4⟩:=hS1.lhs d _ iC
 have hme:a.eval m=.map (some g):=by
  have h9:a.eval m=β d:=hmv;rw [h9,g1]
 obtain ⟨es',clock',hrun,hst',hm'⟩:=nK hu hku g2 g3 g4 hn (jG.2 hyv);have hset:=MapKept.heap_set (w:=w) (r:=g) (o':=.map es' clock') g2
 have hturn:=hS1.turn (d:=d) (e':=.mapp k'' V (cR l n y)) (w':={ w with heap:=w.heap.setIfInBounds g (.map es' clock') }) iC rfl (by rw [g1]; rfl) rfl rfl rfl (by simp) (fun i hi=>hset.2 i hi)
  ⟨g,es',clock',g1,hset.1,hst',hm'⟩
 exact gO hd (s:=Instr.mapUpdate t (a.eval m) (a.eval x) (a.eval v)) (by rcases ho with ho | ho <;> simp only [execOp,ho]) (by rw [hme,hxe]; exact hrun) ⟨p1,β,hturn⟩
theorem mV {b:Bool} (hS:SatB M p0 w0 S a.tmps w p β) {o:Oper} {t:TypeId} {m x v:Operand} (hd:o.dst=none) (ho:o.op=.mapUpdate t m x v\/o.op=.insert t m x v) {ps:List Prop} {S':St}
  (h:gq b P S t (S.look [] m) (S.look [] x) (S.look [] v)=some (ps,S')) (hps:∀ q∈ps,q):EOK M p0 w0 S' P o a w:=by
 unfold gq at h;cases b with
 | true=>exact sN hS hd ho h
 | false =>
  simp only [PF] at h;split at h
  ·rename_i h1;injection h with h
   subst h;exact sL hS hd ho h1 hps
  ·exact sM hS hd ho h
theorem re (hS:SatB M p0 w0 S a.tmps w p β) {ss:Specs} (hss:ss.okA P M w0) {o:Oper} {ps:List Prop} {S':St} (h:Mw P ss S o=some (ps,S')) (hps:∀ q∈ps,q):EOK M p0 w0 S' P o a w:=by
 unfold Mw at h;split at h
 ·rename_i hd;split at h
  ·rename_i t ad v ho;exact wI hS hd ho h hps
  ·rename_i t m x v ho;exact mV hS hd (.inl ho) h hps
  ·rename_i t m x v ho;exact mV hS hd (.inr ho) h hps
  ·rename_i args ts ho;split at h
   ·rename_i x t ha ht;have e1:args=#[x]:=by apply P6.1; rw [ha]
    have e2:ts=#[t]:=by apply P6.1; rw [ht]
    subst e1;subst e2;exact wN hS hd ho h hps
   ·cases h
  ·cases h
 ·rename_i d hd;split at h
  ·rename_i elem x ho;exact Dv hS hd ho h
  ·rename_i elem ho;exact wQ hS hd ho h
  ·rename_i f args ts ho;exact wM hS hss hd ho h hps
  ·rename_i args ts ho;split at h
   ·rename_i s x t t' ha ht;split at h
    ·rename_i htt;have htt:=Pw htt;subst htt;have e1:args=#[s,x]:=by apply P6.1; rw [ha]
     have e2:ts=#[t,t]:=by apply P6.1; rw [ht]
     subst e1;subst e2;exact vg hS hd ho h hps
    ·have e1:args=#[s,x]:=by apply P6.1; rw [ha]
     have e2:ts=#[t,t']:=by apply P6.1; rw [ht]
     subst e1;subst e2;exact oL hS hd ho h hps
   ·cases h
  ·rename_i args ts ho;split at h
   ·rename_i x y t t' ha ht;have e1:args=#[x,y]:=by apply P6.1; rw [ha]
    have e2:ts=#[t,t']:=by apply P6.1; rw [ht]
    subst e1;subst e2;exact As hS hd ho h hps
   ·cases h
  ·rename_i t l c ho;split at h
   ·rename_i hlc;exact Ap hS hd ho hlc h hps
   ·cases h
  ·rename_i t len parts ho;exact oJ hS hd ho h
  ·rename_i t x h' ho;exact Du hS hd ho h hps
  ·rename_i src dst x ho;exact rf hS hd ho h
  ·rename_i t ho;exact sO hS hd ho h
  ·rename_i t x ho;exact wK hS hd ho h
  ·rename_i x ho;split at h <;> simp only [Ps,Pv,reduceCtorEq] at h;rename_i hb;obtain ⟨rfl,rfl⟩:=h;have hv:=aU hS (aN _) x;exact EOK.of_run hd (by simp only [execOp,ho]; rfl) ⟨p,β,hS.set (PN hb) (fe (cm _ _) hv)⟩
  ·cases h
end
end Go.Proofs.YtmfileeamnfpaaaGreatDoor
