
import Derived.Test.YtmfileeamnfpaaaGreatDoorEG4
namespace Go.Proofs.YtmfileeamnfpaaaGreatDoor
open Go
def kl:AV->AV->Option (List Prop)
 | .any,.any=>some []
 | .int k a,.int k' b=>if k=k' then some [a=b] else none
 | .bool a,.bool b=>some [a=b]
 | .str a,.str b=>some [a=b]
 | .nils,.nils=>some []
 | .sl T xs,.sl T' ys=>if h:T'=T then some [xs=h ▸ ys] else none
 | .own d,.own d'=>if d=d' then some [] else none
 | .mp d,.mp d'=>if d=d' then some [] else none
 | .loc d o,.loc d' o'=>if d=d'/\o=o' then some [] else none
 | .pt T x o,.pt T' y o'=>if h:T'=T then (if o=o' then some [x=h ▸ y] else none) else none
 | .el d T i o,.el d' T' i' o'=>if d=d'/\T=T'/\o=o' then some [i=i'] else none
 | .nilm,.nilm=>some []
 | .nilf,.nilf=>some []
 | .pair a b,.pair a' b'=>match kl a a',kl b b' with
  | some p,some q=>some (p++q)
  | _,_=>none
 | .tnil,.tnil=>some []
 | .tup a b,.tup a' b'=>match kl a a',kl b b' with
  | some p,some q=>some (p++q)
  | _,_=>none
 | _,_=>none
theorem Hg:∀ (x y:AV) (ps:List Prop),kl x y=some ps->(∀ q∈ps,q)->x=y:=by
 intro x
 induction x with
 | pair a b iha ihb =>
  intro y ps h hp;cases y <;> simp only [kl,reduceCtorEq] at h;rename_i a' b';split at h <;> simp only [pS,reduceCtorEq] at h;rename_i p q h1 h2;subst h;rw [iha a' p h1 (fun z hz=>hp z (L3 _ hz)),ihb b' q h2 (fun z hz=>hp z (Qw _ hz))]
 | tup a b iha ihb =>
  intro y ps h hp;cases y <;> simp only [kl,reduceCtorEq] at h;rename_i a' b';split at h <;> simp only [pS,reduceCtorEq] at h;rename_i p q h1 h2;subst h;rw [iha a' p h1 (fun z hz=>hp z (L3 _ hz)),ihb b' q h2 (fun z hz=>hp z (Qw _ hz))]
 | tnil=>intro y ps h hp; cases y <;> simp only [kl,reduceCtorEq] at h <;> rfl
 | int k a =>
  intro y ps h hp;cases y <;> simp only [kl,reduceCtorEq] at h;split at h <;> simp only [pS,reduceCtorEq] at h;rename_i hk;subst h hk;rw [hp _ (QJ)]
 | bool a =>
  intro y ps h hp;cases y <;> simp only [kl,reduceCtorEq,pS] at h;subst h;rw [hp _ (QJ)]
 | str a =>
  intro y ps h hp;cases y <;> simp only [kl,reduceCtorEq,pS] at h;subst h;rw [hp _ (QJ)]
 | sl T xs =>
  intro y ps h hp;cases y <;> simp only [kl,reduceCtorEq] at h;split at h <;> simp only [pS,reduceCtorEq] at h;rename_i hT;subst hT h;rw [hp _ (QJ)]
 | own d =>
  intro y ps h hp;cases y <;> simp only [kl,reduceCtorEq] at h;split at h <;> simp only [pS,reduceCtorEq] at h;rename_i hd;rw [hd]
 | mp d =>
  intro y ps h hp;cases y <;> simp only [kl,reduceCtorEq] at h;split at h <;> simp only [pS,reduceCtorEq] at h;rename_i hd;rw [hd]
 | loc d o =>
  intro y ps h hp;cases y <;> simp only [kl,reduceCtorEq] at h;split at h <;> simp only [pS,reduceCtorEq] at h;rename_i hd;rw [hd.1,hd.2]
 | pt T x o =>
  intro y ps h hp;cases y <;> simp only [kl,reduceCtorEq] at h;split at h <;> try cases h
  rename_i hT;split at h <;> simp only [pS,reduceCtorEq] at h;rename_i ho;subst hT ho h;rw [hp _ (QJ)]
 | el d T i o =>
  intro y ps h hp;cases y <;> simp only [kl,reduceCtorEq] at h;split at h <;> simp only [pS,reduceCtorEq] at h;rename_i hd;obtain ⟨rfl,rfl,rfl⟩:=hd;subst h;rw [hp _ (QJ)]
 | any=>intro y ps h hp; cases y <;> simp only [kl,reduceCtorEq] at h <;> rfl
 | nils=>intro y ps h hp; cases y <;> simp only [kl,reduceCtorEq] at h <;> rfl
 | nilm=>intro y ps h hp; cases y <;> simp only [kl,reduceCtorEq] at h <;> rfl
 | nilf=>intro y ps h hp; cases y <;> simp only [kl,reduceCtorEq] at h <;> rfl
 | _=>intro y ps h hp; cases y <;> simp only [kl,reduceCtorEq] at h
structure Over (nm:Nat->Bool) (ex:Nat->Prop) (B B' T T':St):Prop where
 lh:T'.lh=T.lh
 n:T'.n=T.n
 lock:T'.lock=T.lock
 env:∀ s,B'.env s=B.env s->T'.env s=T.env s
 keep:∀ s,¬ ex s->(∀ k,nm k=true->(B'.env s).scrub (fun y=>Nat.beq y k)=B'.env s)->(B'.env s).noGd=true->T'.env s=B'.env s
section
variable {nm:Nat->Bool} {ex:Nat->Prop} {B B' T T':St}
theorem Over.entry (h:Over nm ex B B' T T') (d:Nat) (e:LE):Over nm ex B B' (T.entry d e) (T'.entry d e) :=
 ⟨by simp only [St.entry,h.lh],h.n,h.lock,h.env,h.keep⟩
theorem Over.freeze1 (h:Over nm ex B B' T T') (d:Nat):Over nm ex B B' (T.freeze1 d) (T'.freeze1 d):=by
 unfold St.freeze1;rw [h.lh,h.lock];split
 ·split
  ·exact h
  ·exact h.entry _ _
 ·split
  ·exact h
  ·exact h.entry _ _
 ·exact h
theorem Over.freeze:∀ (ds:List Nat) {T T':St},Over nm ex B B' T T'->Over nm ex B B' (T.freeze ds) (T'.freeze ds)
 | [],_,_,h=>h
 | d::ds,_,_,h=>Over.freeze ds (h.freeze1 d)
theorem Over.fresh (h:Over nm ex B B' T T') {d:Nat} (hd:nm d=true) (e:LE):Over nm ex B B' (T.fresh d e) (T'.fresh d e):=by
 refine ⟨by simp only [St.fresh,St.scrub,St.entry,h.lh],h.n,h.lock,fun s hs=>?_,fun s hex hs hg=>?_⟩
 ·show (T'.env s).scrub _=(T.env s).scrub _;rw [h.env s hs]
 ·show (T'.env s).scrub _=_;rw [h.keep s hex hs hg];exact hs d hd
theorem Over.set (h:Over nm ex B B' T T') {d:Nat} (hd:ex d) (a:AV):Over nm ex B B' (T.set d a) (T'.set d a):=by
 refine ⟨h.lh,h.n,h.lock,fun s hs=>?_,fun s hex hs hg=>?_⟩
 ·simp only [St.set,h.env s hs]
 ·have hne:s≠d:=fun e=>hex (e ▸ hd)
  simp only [St.set,dX hne,QB,h.keep s hex hs hg];exact gX hg
theorem Over.put (h:Over nm ex B B' T T') (R:RT) (x:R.den) {name:Nat} (hn:nm name=true):Over nm ex B B' (R.put x name T) (R.put x name T'):=by
 cases R with
 | dat _=>exact h
 | own e T0=>exact h.fresh hn _
 | map k V=>exact h.fresh hn _
theorem Over.res {d:Nat} (hn:∀ k,nm (bB d k)=true):∀ (Rs:List RT) (k:Nat) (x:eD Rs) {T T':St},Over nm ex B B' T T'->Over nm ex B B' (lH d k Rs x T) (lH d k Rs x T')
 | [],_,_,_,_,h=>h
 | [R],k,x,_,_,h=>h.put R x (hn k)
 | R::U::Rs,k,x,_,_,h=>Over.res hn (U::Rs) (k+1) x.2 (h.put R x.1 (hn k))
end
def gl (ss:Specs) (o:Oper):Bool:=match o.dst,o.op with
 | none,.store ..=>true
 | none,.mapUpdate ..=>true
 | some _,.call { callee:=.builtin .append,.. }=>true
 | some _,.call { callee:=.builtin .copy,.. }=>true
 | some _,.alloc ..=>true
 | some _,.makeSlice ..=>true
 | some _,.assign _=>true
 | some _,.slice _ _ none (some _) none=>ss.cut
 | some _,.call { callee:=.value (.func f),.. }=>(ss.row f).isSome||(match ss f with
  | some s=>!s.Rs.all RT.isDat
  | none=>false)
 | _,_=>false
def GX (o:Oper) (n:Nat):Bool:=match o.dst with
 | some d=>Nat.beq (n % 1000000) d
 | none=>false
theorem Gr {d:Nat} (hd:d<1000000) (k:Nat):Nat.beq (bB d k % 1000000) d=true:=by
 unfold bB;rw [Nat.add_mul_mod_self_left,Nat.mod_eq_of_lt hd];exact Nat.beq_refl d
theorem MV {P:Program} {ss:Specs} {o:Oper} {B B' T:St} {ps:List Prop} (hu:gl ss o=true) (hd:∀ d,o.dst=some d->d<1000000) (h:Nw P ss B o=some (ps,T)) (hl:B'.lh=B.lh) (hn:B'.n=B.n) (hk:B'.lock=B.lock)
  (hv:∀ x∈o.op.operands,B'.val x=B.val x):∃ T',Nw P ss B' o=some (ps,T')/\Over (GX o) (fun s=>o.dst=some s) B B' T T':=by
 have hlook:∀ x∈o.op.operands,B'.look [] x=B.look [] x:=fun x hx=>by unfold St.look; rw [hv x hx]
 have h0:Over (GX o) (fun s=>o.dst=some s) B B' B B':=⟨hl,hn,hk,fun s hs=>hs,fun _ _ _ _=>rfl⟩;obtain ⟨dst,op,type,pos,after,guard⟩:=o;unfold gl at hu;simp only at hu hd hlook hv h;cases dst with
 | none =>
  cases op <;> simp only [Qz] at hu
  ·rename_i t ad v;have e1:=hlook ad (by simp [Op.operands]);have e2:=hlook v (by simp [Op.operands]);have h:kW P B t (B.look [] ad) (B.look [] v)=some (ps,T):=h
   have goal:∃ T',kW P B' t (B.look [] ad) (B.look [] v)=some (ps,T')/\Over (fun _=>false) (fun s=>(none:Option Tmp)=some s) B B' T T':=by
    have h0:Over (fun _=>false) (fun s=>(none:Option Tmp)=some s) B B' B B':=⟨hl,hn,hk,fun s hs=>hs,fun _ _ _ _=>rfl⟩;generalize B.look [] ad=A at *;generalize B.look [] v=V at *;unfold kW at h |-;have hfz:=(h0.freeze V.owns).lh;simp only [hl,hk,hfz];split at h <;> try cases h
    rename_i c hc;split at h <;> try cases h
    rename_i hc0;rw [if_neg hc0];split at h <;> try cases h
    ·split at h <;> try cases h
     rename_i cc hcc
     try simp only [hcc]
     split at h <;> simp only [pS,zn,reduceCtorEq] at h;rename_i hb;obtain ⟨rfl,rfl⟩:=h;rw [if_pos hb];exact ⟨_,rfl,h0.entry _ _⟩
    ·split at h;rotate_left
     ·rename_i c1 hcc
      try simp only [hcc]
      split at h <;> try cases h
      rename_i N c2 hput
      try simp only [hput]
      split at h <;> simp only [pS,zn,reduceCtorEq] at h;rename_i hb;obtain ⟨rfl,rfl⟩:=h;rw [if_pos hb];exact ⟨_,rfl,(h0.freeze _).entry _ _⟩
     ·cases h
     rename_i e' T' xs hcc
     try simp only [hcc]
     split at h <;> try cases h
     rename_i hT;rw [dif_pos hT];split at h <;> try cases h
     rename_i hb;rw [if_pos hb];split at h <;> simp only [pS,zn,reduceCtorEq] at h;rename_i y hy;obtain ⟨rfl,rfl⟩:=h
     try simp only [hy]
     exact ⟨_,rfl,(h0.freeze _).entry _ _⟩
   obtain ⟨T',g1,g2⟩:=goal;refine ⟨T',?_,⟨g2.lh,g2.n,g2.lock,g2.env,fun s hs hsc hg=>g2.keep s hs (fun k hk=>by cases hk) hg⟩⟩;show kW P B' t (B'.look [] ad) (B'.look [] v)=_;rw [e1,e2];exact g1
  ·rename_i t m x v;have e1:=hlook m (by simp [Op.operands]);have e2:=hlook x (by simp [Op.operands]);have e3:=hlook v (by simp [Op.operands]);have h:gv ss.opn P B t (B.look [] m) (B.look [] x) (B.look [] v)=some (ps,T):=h
   have goal:∃ T',gv ss.opn P B' t (B.look [] m) (B.look [] x) (B.look [] v)=some (ps,T')/\Over (fun _=>false) (fun s=>(none:Option Tmp)=some s) B B' T T':=by
    have h0:Over (fun _=>false) (fun s=>(none:Option Tmp)=some s) B B' B B':=⟨hl,hn,hk,fun s hs=>hs,fun _ _ _ _=>rfl⟩;generalize B.look [] m=A at *;generalize B.look [] x=X at *;generalize B.look [] v=V at *
    have key0:∀ T,g9 P B t A X V=some (ps,T)->∃ T',g9 P B' t A X V=some (ps,T')/\Over (fun _=>false) (fun s=>(none:Option Tmp)=some s) B B' T T':=by
     intro T h;unfold g9 at h |-;have hfz:=(h0.freeze V.owns).lh;simp only [hk,hfz];split at h <;> try cases h
     rename_i k kt e d k' n' hm;split at h <;> try cases h
     rename_i k'' V' l hcc
     try simp only [hcc]
     split at h <;> try cases h
     rename_i hkk;rw [if_pos hkk];split at h <;> try cases h
     rename_i hlk;rw [if_neg hlk];split at h <;> simp only [pS,zn,reduceCtorEq] at h;rename_i y hy;obtain ⟨rfl,rfl⟩:=h
     try simp only [hy]
     exact ⟨_,rfl,(h0.freeze _).entry _ _⟩
    have keyO:∀ ps T,eU P B t A X V=some (ps,T)->∃ T',eU P B' t A X V=some (ps,T')/\Over (fun _=>false) (fun s=>(none:Option Tmp)=some s) B B' T T':=by
     intro ps T h;unfold eU at h |-;simp only [hl,hk];split at h <;> try cases h
     split at h <;> try cases h
     rename_i hcc
     try simp only [hcc]
     split at h <;> try cases h
     rename_i hkk;rw [if_pos hkk];split at h <;> try cases h
     rename_i hlk;rw [if_neg hlk];split at h <;> simp only [pS,zn,reduceCtorEq] at h;rename_i hlf;obtain ⟨rfl,rfl⟩:=h;rw [if_pos hlf];exact ⟨_,rfl,h0.entry _ _⟩
    have noO:eU P B t A X V=none->eU P B' t A X V=none:=by
     intro h;unfold eU at h |-;simp only [hl,hk];split at h <;> try rfl
     split at h <;> try rfl
     rename_i hcc
     try simp only [hcc]
     split at h;rotate_left
     ·rename_i hkk;rw [if_neg hkk]
     rename_i hkk;rw [if_pos hkk];split at h
     ·rename_i hlk;rw [if_pos hlk]
     rename_i hlk;rw [if_neg hlk];split at h
     ·cases h
     ·rename_i hlf;rw [if_neg hlf]
    unfold gv at h |-;cases ho:ss.opn with
    | true =>
     rw [ho] at h;simp only [QS] at h |-;unfold lT at h |-;simp only [hl,hk];split at h <;> try cases h
     split at h <;> try cases h
     rename_i hcc
     try simp only [hcc]
     split at h <;> try cases h
     rename_i hkk;rw [if_pos hkk];split at h <;> try cases h
     rename_i hlk;rw [if_neg hlk];split at h <;> simp only [pS,zn,reduceCtorEq] at h;rename_i hlf;obtain ⟨rfl,rfl⟩:=h;rw [if_pos hlf];exact ⟨_,rfl,h0.entry _ _⟩
    | false =>
     rw [ho] at h;simp only [QB] at h |-;cases h1:eU P B t A X V with
     | some r =>
      rw [h1] at h;injection h with h
      subst h;obtain ⟨T',g1,g2⟩:=keyO _ _ h1;rw [g1];exact ⟨T',rfl,g2⟩
     | none =>
      rw [h1] at h;rw [noO h1];exact key0 _ h
   obtain ⟨T',g1,g2⟩:=goal;refine ⟨T',?_,⟨g2.lh,g2.n,g2.lock,g2.env,fun s hs hsc hg=>g2.keep s hs (fun k hk=>by cases hk) hg⟩⟩;show gv ss.opn P B' t (B'.look [] m) (B'.look [] x) (B'.look [] v)=_;rw [e1,e2,e3];exact g1
 | some d =>
  have hd:=hd d rfl;have hnm:∀ k,GX { dst:=some d,op:=op,type:=type,pos:=pos,after:=after,guard:=guard } (bB d k)=true:=fun k=>Gr hd k
  have hnd:GX { dst:=some d,op:=op,type:=type,pos:=pos,after:=after,guard:=guard } d=true:=by
   have:=hnm 0;simpa [bB] using this
  cases op with
  | call c =>
   obtain ⟨callee,args,argTypes⟩:=c;have hargs:args.toList.map (B'.look [])=args.toList.map (B.look []):=RJ fun x hx=>hlook x (by simp only [Op.operands,Call.operands,Sk]; exact .inr (by simpa using hx))
   cases callee with
   | builtin b =>
    cases b <;> simp only [Qz] at hu
    case copy =>
     have h:(match args.toList,argTypes.toList with
      | [x,y],[t,_]=>pA P B d t (B.look [] x) (B.look [] y)
      | _,_=>none)=some (ps,T):=h
     show ∃ T',(match args.toList,argTypes.toList with
      | [x,y],[t,_]=>pA P B' d t (B'.look [] x) (B'.look [] y)
      | _,_=>none)=some (ps,T')/\_
     split at h <;> try cases h
     rename_i x y t t' ha ht;rw [ha] at hargs;simp only [Q1,RR,So,SI] at hargs;simp only [hargs.1,hargs.2];generalize B.look [] x=A at *;generalize B.look [] y=X at *;unfold pA at h |-;simp only [hl,hk,hn];split at h <;> try cases h
     rename_i d1 i n qs T0 ys hsp hys
     try simp only [hsp,hys]
     split at h <;> try cases h
     rename_i e T1 xs hZ
     try simp only [hZ]
     split at h <;> try cases h
     rename_i hT;rw [dif_pos hT];split at h <;> simp only [pS,zn,reduceCtorEq] at h;rename_i hb;obtain ⟨rfl,rfl⟩:=h;rw [if_pos hb];exact ⟨_,rfl,(h0.entry _ _).set rfl _⟩
    have h:(match args.toList,argTypes.toList with
     | [s,x],[t,t']=>if Nat.beq t t' then ki P B d t (B.look [] s) (B.look [] x) else fh P B d t t' (B.look [] s) (B.look [] x)
     | _,_=>none)=some (ps,T):=h
    show ∃ T',(match args.toList,argTypes.toList with
     | [s,x],[t,t']=>if Nat.beq t t' then ki P B' d t (B'.look [] s) (B'.look [] x) else fh P B' d t t' (B'.look [] s) (B'.look [] x)
     | _,_=>none)=some (ps,T')/\_
    split at h <;> try cases h
    rename_i s x t t' ha ht;rw [ha] at hargs;simp only [Q1,RR,So,SI] at hargs;simp only [hargs.1,hargs.2];generalize B.look [] s=A at *;generalize B.look [] x=X at *;split at h
    ·rename_i htt;rw [if_pos htt];unfold ki at h |-;simp only [hl,hk,hn];split at h <;> try cases h
     rename_i e he
     try simp only [he]
     split at h <;> try cases h
     rename_i T0 ys hys
     try simp only [hys]
     split at h <;> try cases h
     rename_i hb;rw [if_pos hb];split at h
     ·simp only [pS,zn] at h;obtain ⟨rfl,rfl⟩:=h;exact ⟨_,rfl,(h0.fresh hnd _).set rfl _⟩
     ·rename_i d1;split at h <;> try cases h
      rename_i e' T' xs hZ
      try simp only [hZ]
      split at h <;> try cases h
      rename_i hT;rw [dif_pos hT];split at h <;> simp only [pS,zn,reduceCtorEq] at h;rename_i hb2;obtain ⟨rfl,rfl⟩:=h;rw [if_pos hb2];exact ⟨_,rfl,((h0.entry _ _).fresh hnd _).set rfl _⟩
     ·cases h
    ·rename_i htt;rw [if_neg htt];unfold fh at h |-;simp only [hk,hn];split at h <;> try cases h
     rename_i e k he hk'
     try simp only [he,hk']
     split at h <;> try cases h
     rename_i T0 hT0
     try simp only [hT0]
     split at h <;> try cases h
     rename_i i hi
     try simp only [hi]
     split at h <;> try cases h
     rename_i z hz
     try simp only [hz]
     split at h <;> try cases h
     rename_i y k2 n hy
     try simp only [hy]
     split at h <;> simp only [pS,zn,reduceCtorEq] at h;rename_i hb;obtain ⟨rfl,rfl⟩:=h;rw [if_pos hb];exact ⟨_,rfl,(h0.fresh hnd _).set rfl _⟩
   | value f =>
    cases f <;> simp only [Qz] at hu;rename_i f;have h:mr P ss B d f args.toList=some (ps,T):=h;show ∃ T',mr P ss B' d f args.toList=some (ps,T')/\_;unfold mr at h |-;split at h
    ·rename_i r hr;split at h <;> try cases h
     rename_i a rest ha;rw [ha] at hargs;simp only [Q1,So] at hargs;split at h <;> try cases h
     rename_i hcal;rw [if_pos hcal,hargs.1,hargs.2];generalize B.look [] a=A at *;generalize rest.map (B.look [])=R at *;unfold jQ at h |-;have hfz:=h0.freeze ((r.mid R).flatMap AV.owns);simp only [hk,hn,hfz.lh];split at h <;> try cases h
     rename_i n xs hn1
     try simp only [hn1]
     split at h <;> try cases h
     rename_i ys x hys hx
     try simp only [hys,hx]
     split at h <;> simp only [pS,zn,reduceCtorEq] at h;rename_i hb;obtain ⟨rfl,rfl⟩:=h;rw [if_pos hb];refine ⟨_,rfl,?_⟩;cases r.out
     ·exact (hfz.entry _ _).set rfl _
     ·exact ((hfz.entry _ _).fresh hnd _).set rfl _
    ·rename_i r hr;split at h <;> try cases h
     rename_i a rest ha;rw [ha] at hargs;simp only [Q1,So] at hargs;split at h <;> try cases h
     rename_i hcal;rw [if_pos hcal,hargs.1,hargs.2];generalize B.look [] a=A at *;generalize rest.map (B.look [])=R at *;unfold jR at h |-;split at h <;> try cases h
     rename_i n;have hbo:dn B' n=dn B n:=by unfold dn; rw [hl]
     have hfz:=h0.freeze (dn B n++R.flatMap AV.owns);simp only [hbo,hk,hn,hfz.lh];split at h <;> try cases h
     rename_i c hc
     try simp only [hc]
     split at h <;> try cases h
     rename_i x y hx hy
     try simp only [hx,hy]
     split at h <;> simp only [pS,zn,reduceCtorEq] at h;rename_i hb;obtain ⟨rfl,rfl⟩:=h;rw [if_pos hb];exact ⟨_,rfl,(Over.res hnm r.Rs 0 _ (hfz.entry _ _)).set rfl _⟩
    ·have hcs:Over (GX { dst:=some d,op:=Op.call { callee:=.value (.func f),args:=args,argTypes:=argTypes },type:=type,pos:=pos,after:=after,guard:=guard }) (fun s=>(some d:Option Tmp)=some s) B B' (fW ss B f args.toList) (fW ss B' f args.toList):=by
      unfold fW;split
      ·split
       ·rw [hargs];exact h0.freeze _
       ·exact h0
      ·exact h0
     have hcl:args.toList.map ((fW ss B' f args.toList).look [])=args.toList.map ((fW ss B f args.toList).look []):=by
      have e:∀ (S:St) (x:Operand),(fW ss S f args.toList).look [] x=S.look [] x:=by
       intro S x;unfold fW;split
       ·split
        ·rw [Ey]
        ·rfl
       ·rfl
      exact (RJ fun x _=>e B' x).trans (hargs.trans (RJ fun x _=>(e B x).symm))
     simp only [hcl,hcs.lh,hn];split at h <;> try cases h
     rename_i q0 Rs x he
     try simp only [he]
     split at h <;> simp only [pS,zn,reduceCtorEq] at h;rename_i hb;obtain ⟨rfl,rfl⟩:=h
     have hb':(Nat.blt d B.n&&kR B' d 0 Rs)=true:=by
      have:∀ (Rs:List RT) (k:Nat),kR B' d k Rs=kR B d k Rs:=by
       intro Rs
       induction Rs with
       | nil=>intro k; rfl
       | cons R Rs ih=>intro k; cases R <;> simp only [kR,hk,ih]
      rw [this];exact hb
     rw [if_pos hb'];exact ⟨_,rfl,(Over.res hnm Rs 0 x hcs).set rfl _⟩
   | _=>simp only [Qz] at hu
  | alloc elem =>
   have h:mw P B d elem=some (ps,T):=h;show ∃ T',mw P B' d elem=some (ps,T')/\_;unfold mw at h |-;simp only [hk,hn];split at h <;> try cases h
   rename_i i hi
   try simp only [hi]
   split at h <;> try cases h
   rename_i z hz
   try simp only [hz]
   split at h <;> simp only [pS,zn,reduceCtorEq] at h;rename_i hb;obtain ⟨rfl,rfl⟩:=h;rw [if_pos hb];exact ⟨_,rfl,(h0.fresh hnd _).set rfl _⟩
  | makeSlice t l c =>
   have e1:=hlook l (by simp [Op.operands]);have h:(if ma l c then px P B d t (B.look [] l) else none)=some (ps,T):=h;show ∃ T',(if ma l c then px P B' d t (B'.look [] l) else none)=some (ps,T')/\_;split at h <;> try cases h
   rename_i hlc;rw [if_pos hlc,e1];generalize B.look [] l=A at *;unfold px at h |-;simp only [hk,hn];split at h <;> try cases h
   rename_i e he
   try simp only [he]
   split at h <;> try cases h
   rename_i T0 hT0
   try simp only [hT0]
   split at h <;> try cases h
   rename_i i hi
   try simp only [hi]
   split at h <;> try cases h
   rename_i z hz
   try simp only [hz]
   split at h <;> try cases h
   rename_i y k2 n hy
   try simp only [hy]
   split at h <;> simp only [pS,zn,reduceCtorEq] at h;rename_i hb;obtain ⟨rfl,rfl⟩:=h;rw [if_pos hb];exact ⟨_,rfl,(h0.fresh hnd _).set rfl _⟩
  | assign x =>
   have e1:=hlook x (by simp [Op.operands]);have h:(if Nat.blt d B.n then some (([]:List Prop),B.set d (B.look [] x)) else none)=some (ps,T):=h;show ∃ T',(if Nat.blt d B'.n then some (([]:List Prop),B'.set d (B'.look [] x)) else none)=some (ps,T')/\_;split at h <;> simp only [pS,zn,reduceCtorEq] at h;rename_i hb;obtain ⟨rfl,rfl⟩:=h;rw [hn,if_pos hb,e1];exact ⟨_,rfl,h0.set rfl _⟩
  | slice t x lo hi mx =>
   cases lo with
   | some _=>simp only [Qz] at hu
   | none =>
   cases hi with
   | none=>simp only [Qz] at hu
   | some hh =>
   cases mx with
   | some _=>simp only [Qz] at hu
   | none =>
   have e1:=hlook x (by simp [Op.operands]);have e2:=hlook hh (by simp [Op.operands]);have h:wP P B d t (B.look [] x) (B.look [] hh)=some (ps,T):=h;show ∃ T',wP P B' d t (B'.look [] x) (B'.look [] hh)=some (ps,T')/\_;rw [e1,e2];generalize B.look [] x=A at *;generalize B.look [] hh=H at *;unfold wP at h |-;simp only [hl,hk,hn];split at h <;> try cases h
   rename_i d1 k b;split at h <;> try cases h
   rename_i e T0 xs hZ
   try simp only [hZ]
   split at h <;> simp only [pS,zn,reduceCtorEq] at h;rename_i hb;obtain ⟨rfl,rfl⟩:=h;rw [if_pos hb];exact ⟨_,rfl,((h0.entry _ _).fresh hnd _).set rfl _⟩
  | _=>simp only [Qz] at hu
def dx (L:Nat->Bool):Nat->List (Option (Nat×AV))->List (Nat×AV)
 | _,[]=>[]
 | i,none::es=>dx L (i+1) es
 | i,some (d,a)::es=>(d,bif L i then a else .any)::dx L (i+1) es
def dS (ops:Array Oper) (i j:Nat):Bool:=((fa ops).getD i 0).testBit j
def ze (ss:Specs) (ops:Array Oper) (k i:Nat) (o:Oper):Bool :=
 (bu o).all (fun e=>Nat.blt e i) &&
 (o.op.operands.toList.all fun x=>match x with
  | .tmp t=>(List.range k).all fun j=>match ops[j]? with
   | some oj=>gl ss oj||(match oj.dst with
    | some d=>!Nat.beq d t||(bu o).contains j
    | none=>true)
   | none=>true
  | _=>true)
theorem me {ss:Specs} {ops:Array Oper} {k i:Nat} {o:Oper} (h:ze ss ops k i o=true):(∀ e∈bu o,e<i)/\∀ t,Operand.tmp t∈o.op.operands->∀ (j:Nat) oj,j<k->ops[j]?=some oj->gl ss oj=false->oj.dst=some t->j∈bu o:=by
 simp only [ze,CF] at h;obtain ⟨h1,h2⟩:=h;refine ⟨fun e he=>by simpa using Qy.1 h1 e he,fun t ht j oj hj ho hu hd=>?_⟩;have:=Qy.1 h2 (.tmp t) (by simpa using ht);simp only at this;have:=Qy.1 this j (by simpa using hj);simp only [ho,hu,hd,Sv,Ri,QN] at this;rcases this with h | h
 ·simp at h
 ·simpa using h
def uy (ss:Specs) (ops:Array Oper):List Nat:=ops.toList.filterMap fun o=>if gl ss o then none else o.dst
def FM (ss:Specs) (ops:Array Oper) (S:St):St:=gN S.clean ((uy ss ops).map fun d=>(d,.any))
def iZ (P:Program) (ss:Specs) (ops:Array Oper):List Oper->Nat->St->List (Option (Nat×AV))->Option (List Prop×List St×List (Option (Nat×AV)))
 | [],_,S,ent=>some ([],[S],ent)
 | o::os,i,S,ent =>
  if gl ss o then match Nw P ss (gN S (dx (dS ops i) 0 ent)) o with
   | some (ps,T)=>(match iZ P ss ops os (i+1) (FM ss ops T) (ent++[none]) with
    | some (qs,Ss,ent')=>some (ps++qs,S::Ss,ent')
    | none=>none)
   | none=>none
  else match Hf P ss (gN S (dx (dS ops i) 0 ent)) [] o,o.dst with
   | some (ps,r),some d=>(match iZ P ss ops os (i+1) S (ent++[some (d,r.opn [])]) with
    | some (qs,Ss,ent')=>some (ps++qs,Ss,ent')
    | none=>none)
   | _,_=>none
def ec (ss:Specs) (ops:Array Oper) (i:Nat):Nat:=((ops.toList.take i).filter (gl ss)).length
def Ib (ss:Specs) (ops:Array Oper) (j m:Nat):Bool :=
 (List.range ops.size).all fun e=>match ops[e]? with
  | some o=>!gl ss o||(if m<=ec ss ops e then !dS ops j e else !dS ops e j)
  | none=>true
def KL (P:Program) (ss:Specs) (ops:Array Oper) (Ss:List St) (ent:List (Option (Nat×AV))) (j:Nat) (o:Oper) (r:AV):List Nat->Option (List Prop)
 | []=>some []
 | m::ms=>if Nat.beq m (ec ss ops j)||!Ib ss ops j m then KL P ss ops Ss ent j o r ms else
   match Ss[m]? with
   | none=>none
   | some S=>match Hf P ss (gN S (dx (dS ops j) 0 ent)) [] o with
    | none=>none
    | some (qs,r')=>match kl (r'.opn []) r,KL P ss ops Ss ent j o r ms with
     | some es,some rest=>some (qs++es++rest)
     | _,_=>none
def KM (P:Program) (ss:Specs) (ops:Array Oper) (Ss:List St) (ent:List (Option (Nat×AV))):List Oper->Nat->Option (List Prop)
 | [],_=>some []
 | o::os,j=>match ent[j]? with
  | some (some (_,r))=>(match KL P ss ops Ss ent j o r (List.range Ss.length),KM P ss ops Ss ent os (j+1) with
   | some p,some q=>some (p++q)
   | _,_=>none)
  | _=>KM P ss ops Ss ent os (j+1)
def x4 (d:Nat):AV->Bool
 | .own n=>!Nat.beq (n % 1000000) d
 | .mp n=>!Nat.beq (n % 1000000) d
 | .loc n _=>!Nat.beq (n % 1000000) d
 | .el n _ _ _=>!Nat.beq (n % 1000000) d
 | .osl n _ _ _=>!Nat.beq (n % 1000000) d
 | .psl n _ _=>!Nat.beq (n % 1000000) d
 | .fn _ c1 c2=>(c1.all fun x=>!Nat.beq (x.1 % 1000000) d)&&(c2.all fun x=>!Nat.beq (x.1 % 1000000) d)
 | .pair a b=>x4 d a&&x4 d b
 | .tup a b=>x4 d a&&x4 d b
 | .gd ..=>false
 | _=>true
def Qm (ss:Specs) (ops:Array Oper) (n:Nat) (Ss:List St) (ent:List (Option (Nat×AV))):Bool :=
 ((List.range ops.size).all fun i=>match ops[i]? with
  | some o=>ze ss ops ops.size i o&&o.guard.isNone&&(match o.dst with
    | some d=>Nat.blt d n&&Nat.blt d 1000000
    | none=>true) &&
   (!gl ss o||((List.range i).all fun e=>match ops[e]? with
    | some oe=>!gl ss oe||dS ops i e
    | none=>true)&&(List.range ent.length).all fun j=>dS ops j i||match ent[j]? with
     | some (some (_,r))=>(match o.dst with
      | some d=>x4 d r
      | none=>r.noGd)
     | _=>true)
  | none=>false) &&
 gf (ops.toList.filterMap (·.dst))&&Ss.all (fun S=>Nat.beq S.n n)
def Eq (ops:Array Oper):Nat->Nat
 | 0=>0
 | n+1=>if (List.range n).all (fun j=>((fa ops).getD n 0).testBit j) then Eq ops n else n+1
def O3 (ops:Array Oper) (k:Nat):Bool :=
 (List.range ops.size).all fun i=>match ops[i]? with
  | some o=>(bu o).all (fun e=>Nat.blt e i)&&(Nat.blt i k||(List.range i).all (fun j=>((fa ops).getD i 0).testBit j))
  | none=>false
def LN (P:Program) (ss:Specs) (ops:Array Oper) (k:Nat) (hd:Array Oper) (S:St):Option (List Prop×St) :=
 match iZ P ss hd hd.toList 0 (FM ss hd S) [] with
 | some (ps,Ss,ent)=>(match KM P ss hd Ss ent hd.toList 0,Ss.getLast? with
  | some qs,some Sr=>if P.follows .mixedOrders&&Qm ss hd S.n Ss ent&&Nat.beq Ss.length (ec ss hd hd.size+1)&&(Nat.ble k ops.size&&O3 ops k) then
    (match run P ss ops (ops.toList.drop k) (gN Sr (dx (fun _=>true) 0 ent)) with
    | some (qs2,S2)=>some (ps++(qs++qs2),S2)
    | none=>none) else none
  | _,_=>none)
 | none=>none
def yA (P:Program) (ss:Specs) (ops:Array Oper) (S:St):Option (List Prop×St):=LN P ss ops (Eq ops ops.size) (ops.toList.take (Eq ops ops.size)).toArray S
section
variable {M:Nat->Prop} {p0:PH} {w0:World} {P:Program} {ss:Specs} {ops:Array Oper} {Q:Exit->Act->World->Prop}
theorem G9 {d:Nat}:∀ (x:AV),x4 d x=true->(∀ k,Nat.beq (k % 1000000) d=true->x.scrub (fun y=>Nat.beq y k)=x)/\x.noGd=true:=by
 have key:∀ n k:Nat,(!Nat.beq (n % 1000000) d)=true->Nat.beq (k % 1000000) d=true->Nat.beq n k=false:=by
  intro n k h1 h2;apply dX;rintro rfl;rw [h2] at h1;cases h1
 intro x
 induction x with
 | own n=>intro h; exact ⟨fun k hk=>by simp only [AV.scrub,key n k h hk,QB],rfl⟩
 | mp n=>intro h; exact ⟨fun k hk=>by simp only [AV.scrub,key n k h hk,QB],rfl⟩
 | loc n o=>intro h; exact ⟨fun k hk=>by simp only [AV.scrub,key n k h hk,QB],rfl⟩
 | el n T i o=>intro h; exact ⟨fun k hk=>by simp only [AV.scrub,key n k h hk,QB],rfl⟩
 | osl n T i m=>intro h; exact ⟨fun k hk=>by simp only [AV.scrub,key n k h hk,QB],rfl⟩
 | psl n i m=>intro h; exact ⟨fun k hk=>by simp only [AV.scrub,key n k h hk,QB],rfl⟩
 | fn f c1 c2 =>
  intro h;simp only [x4,CF] at h;refine ⟨fun k hk=>?_,rfl⟩
  have a1:(c1.any fun x=>Nat.beq x.1 k)=false:=by
   rw [SQ];intro y hy;rw [key _ _ (Qy.1 h.1 y hy) hk];simp
  have a2:(c2.any fun x=>Nat.beq x.1 k)=false:=by
   rw [SQ];intro y hy;rw [key _ _ (Qy.1 h.2 y hy) hk];simp
  simp only [AV.scrub,a1,a2,RY,QB]
 | pair a b iha ihb =>
  intro h;simp only [x4,CF] at h;exact ⟨fun k hk=>by simp only [AV.scrub,(iha h.1).1 k hk,(ihb h.2).1 k hk],rfl⟩
 | tup a b iha ihb =>
  intro h;simp only [x4,CF] at h;exact ⟨fun k hk=>by simp only [AV.scrub,(iha h.1).1 k hk,(ihb h.2).1 k hk],rfl⟩
 | gd g w a _=>intro h; cases h
 | _=>intro _; exact ⟨fun _ _=>rfl,rfl⟩
def xj (ent:List (Option (Nat×AV))):Prop:=∀ (i j s:Nat) (a b:AV),ent[i]?=some (some (s,a))->ent[j]?=some (some (s,b))->i=j
theorem ln (L:Nat->Bool) (s:Nat):∀ (ent:List (Option (Nat×AV))) (n:Nat),(∀ (j:Nat) a,ent[j]?≠some (some (s,a)))->lk (dx L n ent) s=none
 | [],_,_=>rfl
 | none::es,n,h=>ln L s es (n+1) (fun j a=>by simpa using h (j+1) a)
 | some (d,a)::es,n,h=>by
  have hne:s≠d:=by
   rintro rfl;exact h 0 a (by simp)
  simp only [dx,lk,dX hne,QB];exact ln L s es (n+1) (fun j a=>by simpa using h (j+1) a)
theorem wj (L:Nat->Bool):∀ (ent:List (Option (Nat×AV))) (n j s:Nat) (a:AV),xj ent->ent[j]?=some (some (s,a))->lk (dx L n ent) s=some (bif L (n+j) then a else .any)
 | [],_,_,_,_,_,h=>by simp at h
 | none::es,n,j,s,a,ho,h=>by
  cases j with
  | zero=>simp at h
  | succ j =>
   have ho':xj es:=fun i k s a b h1 h2=>by
    have:=ho (i+1) (k+1) s a b (by simpa using h1) (by simpa using h2);omega
   have:=wj L es (n+1) j s a ho' (by simpa using h);simp only [dx];rw [this,show n+1+j=n+(j+1) by omega]
 | some (d,b)::es,n,j,s,a,ho,h=>by
  cases j with
  | zero =>
   simp only [List.getElem?_cons_zero,pS,zn] at h;obtain ⟨rfl,rfl⟩:=h;simp only [dx,lk,Nat.beq_refl,QS,RQ]
  | succ j =>
   have hne:s≠d:=by
    rintro rfl;have:=ho 0 (j+1) s b a (by simp) h;omega
   have ho':xj es:=fun i k s a b h1 h2=>by
    have:=ho (i+1) (k+1) s a b (by simpa using h1) (by simpa using h2);omega
   have:=wj L es (n+1) j s a ho' (by simpa using h);simp only [dx,lk,dX hne,QB];rw [this,show n+1+j=n+(j+1) by omega]
theorem uf {ent:List (Option (Nat×AV))} (ho:xj ent) (L:Nat->Bool) (S:St) {j s:Nat} {a:AV} (h:ent[j]?=some (some (s,a))):(gN S (dx L 0 ent)).env s=bif L j then a else .any:=by
 have:=wj L ent 0 j s a ho h;rw [Rl] at this;simp only [gN,this]
theorem dG {ent:List (Option (Nat×AV))} (L:Nat->Bool) (S:St) {s:Nat} (h:∀ (j:Nat) a,ent[j]?≠some (some (s,a))):(gN S (dx L 0 ent)).env s=S.env s:=by
 simp only [gN,ln L s ent 0 h]
theorem Mu:∀ (l:List Nat) (s:Nat),lk (l.map fun d=>(d,AV.any)) s=if l.contains s then some .any else none
 | [],s=>rfl
 | d::l,s=>by
  simp only [Q1,lk];by_cases h:s=d
  ·subst h; simp
  ·rw [dX h,QB,Mu l s];simp [h]
theorem uj (S:St) (s:Nat):(FM ss ops S).env s=if (uy ss ops).contains s then .any else S.clean.env s:=by
 unfold FM;simp only [gN,Mu];by_cases h:(uy ss ops).contains s=true
 ·rw [if_pos h,if_pos h]
 ·rw [if_neg h,if_neg h]
theorem Lh (S:St) (s:Nat):((FM ss ops S).env s).noGd=true:=by
 rw [uj];split
 ·rfl
 ·exact co _ _
theorem IA {i j:Nat} (h:i<=j):ec ss ops i<=ec ss ops j:=by
 unfold ec;have:(ops.toList.take i)=(ops.toList.take j).take i:=by rw [R2,RO h]
 rw [this];exact ((List.take_sublist i (ops.toList.take j)).filter _).length_le
theorem my {i:Nat} {o:Oper} (ho:ops[i]?=some o):ec ss ops (i+1)=ec ss ops i+(if gl ss o=true then 1 else 0):=by
 have his:i<ops.toList.length:=by
  rcases QO i ops.toList.length with h | h
  ·exact h
  ·rw [Array.getElem?_eq_none (by simpa using h)] at ho; cases ho
 have ho':ops.toList[i]=o:=by
  have:ops.toList[i]?=some o:=by simpa using ho
  rw [List.getElem?_eq_getElem his] at this;injection this
 unfold ec;rw [Q4 his,SO,KK,ho'];by_cases h:gl ss o=true
 ·rw [if_pos h,Rj h]; rfl
 ·rw [if_neg h,RF h]; rfl
theorem j6:∀ (os:List Oper) (i:Nat) (S:St) (ent:List (Option (Nat×AV))) (ps:List Prop) (Ss:List St) (ent':List (Option (Nat×AV))),iZ P ss ops os i S ent=some (ps,Ss,ent')->os=ops.toList.drop i->i<=ops.size->ent.length=i ->
  ent'.length=ops.size/\ent'.take i=ent/\Ss[0]?=some S/\∀ (j:Nat) o,i<=j->ops[j]?=some o->∃ Sj,Ss[ec ss ops j - ec ss ops i]?=some Sj /\
   (gl ss o=true->ent'[j]?=some none/\∃ qs T,Nw P ss (gN Sj (dx (dS ops j) 0 (ent'.take j))) o=some (qs,T)/\(∀ q∈qs,q∈ps)/\Ss[ec ss ops j+1 - ec ss ops i]?=some (FM ss ops T)) /\
   (gl ss o=false->∃ qs r d,ent'[j]?=some (some (d,r.opn []))/\o.dst=some d/\Hf P ss (gN Sj (dx (dS ops j) 0 (ent'.take j))) [] o=some (qs,r)/\∀ q∈qs,q∈ps)
 | [],i,S,ent,ps,Ss,ent',h,hos,hi,hl=>by
  simp only [iZ,pS,zn] at h;obtain ⟨rfl,rfl,rfl⟩:=h
  have:ops.size<=i:=by
   have:=congrArg List.length hos;simp at this;omega
  refine ⟨by omega,by rw [QG (by omega)],rfl,fun j o hj ho=>?_⟩;rw [Array.getElem?_eq_none (by omega)] at ho;cases ho
 | o::os,i,S,ent,ps,Ss,ent',h,hos,hi,hl=>by
  have his:i<ops.size:=by
   rcases QO i ops.size with h | h
   ·exact h
   ·rw [Se (by simpa using h)] at hos; cases hos
  have hdr:ops.toList.drop i=ops.toList[i]'(by simpa using his)::ops.toList.drop (i+1):=Rq (by simpa using his);rw [hdr] at hos;injection hos with ho hos
  have ho:ops[i]?=some o:=by rw [ho]; simp [his]
  unfold iZ at h
  have up:∀ (Si:St) (x:Option (Nat×AV)) (qs:List Prop) (Ss1:List St),iZ P ss ops os (i+1) Si (ent++[x])=some (qs,Ss1,ent')->ent'.length=ops.size/\ent'.take i=ent/\ent'[i]?=some x:=by
   intro Si x qs Ss1 hr;obtain ⟨k1,k2,_⟩:=j6 os (i+1) Si (ent++[x]) qs Ss1 ent' hr hos (by omega) (by simp [hl]);refine ⟨k1,?_,?_⟩
   ·have:=congrArg (List.take i) k2;rw [R2,RO (by omega),QY (by omega),QG (l:=ent) (by omega)] at this;exact this
   ·have:=congrArg (fun l=>l[i]?) k2;simp only [List.getElem?_take] at this;rw [if_pos (by omega),List.getElem?_append_right (by omega)] at this;simpa [hl] using this
  split at h
  ·rename_i hu;split at h <;> try cases h
   rename_i ps1 T hev;split at h <;> simp only [pS,zn,reduceCtorEq] at h;rename_i qs Ss1 ent1 hr;obtain ⟨rfl,rfl,rfl⟩:=h;obtain ⟨k1,k2,k3⟩:=up _ _ _ _ hr;obtain ⟨_,_,g3,g4⟩:=j6 os (i+1) _ (ent++[none]) qs Ss1 ent1 hr hos (by omega) (by simp [hl]);have he1:ec ss ops (i+1)=ec ss ops i+1:=by rw [my ho,if_pos hu]
   refine ⟨k1,k2,rfl,fun j oj hj hoj=>?_⟩;by_cases hji:j=i
   ·subst hji;rw [ho] at hoj;injection hoj with hoj
    subst hoj;refine ⟨S,by rw [SC]; rfl,fun _=>⟨k3,ps1,T,by rw [k2]; exact hev,fun q hq=>L3 _ hq,?_⟩,fun h=>by rw [hu] at h; cases h⟩;rw [show ec ss ops j+1 - ec ss ops j=0+1 by omega,List.getElem?_cons_succ];exact g3
   ·have hle:=IA (ss:=ss) (ops:=ops) (show i+1<=j by omega);obtain ⟨Sj,q1,q2,q3⟩:=g4 j oj (by omega) hoj;refine ⟨Sj,?_,fun hu'=>?_,fun hu'=>?_⟩
    ·rw [show ec ss ops j - ec ss ops i=(ec ss ops j - ec ss ops (i+1))+1 by omega,List.getElem?_cons_succ];exact q1
    ·obtain ⟨a1,qs',T',a2,a3,a4⟩:=q2 hu';refine ⟨a1,qs',T',a2,fun q hq=>Qw _ (a3 q hq),?_⟩;rw [show ec ss ops j+1 - ec ss ops i=(ec ss ops j+1 - ec ss ops (i+1))+1 by omega,List.getElem?_cons_succ];exact a4
    ·obtain ⟨qs',r,d,a1,a2,a3,a4⟩:=q3 hu';exact ⟨qs',r,d,a1,a2,a3,fun q hq=>Qw _ (a4 q hq)⟩
  ·rename_i hu;have hu:gl ss o=false:=by simpa using hu
   split at h <;> try cases h
   rename_i ps1 r d hev hd;split at h <;> simp only [pS,zn,reduceCtorEq] at h;rename_i qs Ss1 ent1 hr;obtain ⟨rfl,rfl,rfl⟩:=h;obtain ⟨k1,k2,k3⟩:=up _ _ _ _ hr;obtain ⟨_,_,g3,g4⟩:=j6 os (i+1) _ (ent++[some (d,r.opn [])]) qs Ss1 ent1 hr hos (by omega) (by simp [hl]);have he1:ec ss ops (i+1)=ec ss ops i:=by rw [my ho,if_neg (by rw [hu]; simp)]; rfl
   refine ⟨k1,k2,g3,fun j oj hj hoj=>?_⟩;by_cases hji:j=i
   ·subst hji;rw [ho] at hoj;injection hoj with hoj
    subst hoj;refine ⟨S,by rw [SC]; exact g3,fun h=>(by rw [hu] at h; cases h),fun _=>⟨ps1,r,d,k3,hd,by rw [k2]; exact hev,fun q hq=>L3 _ hq⟩⟩
   ·obtain ⟨Sj,q1,q2,q3⟩:=g4 j oj (by omega) hoj;rw [he1] at q1 q2;refine ⟨Sj,q1,fun hu'=>?_,fun hu'=>?_⟩
    ·obtain ⟨a1,qs',T',a2,a3,a4⟩:=q2 hu';exact ⟨a1,qs',T',a2,fun q hq=>Qw _ (a3 q hq),a4⟩
    ·obtain ⟨qs',r',d',a1,a2,a3,a4⟩:=q3 hu';exact ⟨qs',r',d',a1,a2,a3,fun q hq=>Qw _ (a4 q hq)⟩
theorem sw {Ss:List St} {ent:List (Option (Nat×AV))} {j:Nat} {o:Oper} {r:AV}:∀ (ms:List Nat) (ps:List Prop),KL P ss ops Ss ent j o r ms=some ps->(∀ q∈ps,q)->∀ m∈ms,m≠ec ss ops j->Ib ss ops j m=true ->
  ∃ S qs r',Ss[m]?=some S/\Hf P ss (gN S (dx (dS ops j) 0 ent)) [] o=some (qs,r')/\r'.opn []=r/\∀ q∈qs,q
 | [],_,_,_,m,hm,_,_=>by cases hm
 | m0::ms,ps,h,hp,m,hm,hne,hpm=>by
  unfold KL at h;split at h
  ·rename_i hc;rcases Qs.1 hm with rfl | hm
   ·exfalso;rw [dX hne,hpm] at hc;simp at hc
   ·exact sw ms ps h hp m hm hne hpm
  ·split at h <;> try cases h
   rename_i S hS;split at h <;> try cases h
   rename_i qs r' hev;split at h <;> simp only [pS,reduceCtorEq] at h;rename_i es rest he hrest;subst h;rcases Qs.1 hm with rfl | hm
   ·exact ⟨S,qs,r',hS,hev,Hg _ _ es he (fun q hq=>hp q (L3 _ (Qw _ hq))),fun q hq=>hp q (L3 _ (L3 _ hq))⟩
   ·exact sw ms rest hrest (fun q hq=>hp q (Qw _ hq)) m hm hne hpm
theorem sx {Ss:List St} {ent:List (Option (Nat×AV))}:∀ (os:List Oper) (i:Nat) (ps:List Prop),KM P ss ops Ss ent os i=some ps->(∀ q∈ps,q)->∀ (j:Nat) o d r,os[j]?=some o->ent[i+j]?=some (some (d,r)) ->
  ∃ qs,KL P ss ops Ss ent (i+j) o r (List.range Ss.length)=some qs/\∀ q∈qs,q
 | [],_,_,_,_,j,o,d,r,ho,_=>by simp at ho
 | o0::os,i,ps,h,hp,j,o,d,r,ho,he=>by
  unfold KM at h;cases j with
  | zero =>
   simp only [List.getElem?_cons_zero,pS] at ho;subst ho;rw [RQ] at he |-;rw [he] at h;simp only at h;split at h <;> simp only [pS,reduceCtorEq] at h;rename_i p q h1 h2;subst h;exact ⟨p,h1,fun x hx=>hp x (L3 _ hx)⟩
  | succ j =>
   have ho':os[j]?=some o:=by simpa using ho
   have he':ent[i+1+j]?=some (some (d,r)):=by rw [show i+1+j=i+(j+1) by omega]; exact he
   rw [show i+(j+1)=i+1+j by omega];split at h
   ·split at h <;> simp only [pS,reduceCtorEq] at h;rename_i p q h1 h2;subst h;exact sx os (i+1) q h2 (fun x hx=>hp x (Qw _ hx)) j o d r ho' he'
   ·exact sx os (i+1) ps h hp j o d r ho' he'
structure Graph (P:Program) (ss:Specs) (ops:Array Oper) (n:Nat) (Ss:List St) (ent:List (Option (Nat×AV))):Prop where
 size:ent.length=ops.size
 len:Ss.length=ec ss ops ops.size+1
 sn:∀ (m:Nat) S,Ss[m]?=some S->S.n=n
 noGd:∀ (m:Nat) S,Ss[m]?=some S->∀ s,(S.env s).noGd=true
 free:∀ (m:Nat) S,Ss[m]?=some S->∀ (j d:Nat) (r:AV),ent[j]?=some (some (d,r))->S.env d=.any
 once:xj ent
 dist:∀ (i j:Nat) (oi oj:Oper) (d:Nat),ops[i]?=some oi->ops[j]?=some oj->oi.dst=some d->oj.dst=some d->i=j
 ok:∀ (i:Nat) o,ops[i]?=some o->ze ss ops ops.size i o=true/\o.guard=none/\∀ d,o.dst=some d->d<n/\d<1000000
 value:∀ (j:Nat) o,ops[j]?=some o->gl ss o=false->∃ d r,ent[j]?=some (some (d,r))/\r.noGd=true/\o.dst=some d/\∀ m S,Ss[m]?=some S->Ib ss ops j m=true->∃ qs r',Hf P ss (gN S (dx (dS ops j) 0 ent)) [] o=some (qs,r')/\r'.opn []=r/\∀ q∈qs,q
 turn:∀ (j:Nat) o,ops[j]?=some o->gl ss o=true->ent[j]?=some none/\∃ S qs T,Ss[ec ss ops j]?=some S/\Nw P ss (gN S (dx (dS ops j) 0 ent)) o=some (qs,T)/\(∀ q∈qs,q)/\Ss[ec ss ops j+1]?=some (FM ss ops T)
 order:∀ (i e:Nat) oi oe,ops[i]?=some oi->ops[e]?=some oe->gl ss oi=true->gl ss oe=true->e<i->dS ops i e=true
 fixed:∀ (i:Nat) oi,ops[i]?=some oi->gl ss oi=true->∀ (j d:Nat) (r:AV),ent[j]?=some (some (d,r))->dS ops j i=false->(∀ k,GX oi k=true->r.scrub (fun y=>Nat.beq y k)=r)/\r.noGd=true
theorem Graph.edge {n:Nat} {Ss:List St} {ent:List (Option (Nat×AV))} (G:Graph P ss ops n Ss ent):∀ (i:Nat) o,ops[i]?=some o->∀ e∈bu o,e<i:=fun i o ho e he=>(me (G.ok i o ho).1).1 e he
theorem Graph.look {n:Nat} {Ss:List St} {ent:List (Option (Nat×AV))} (G:Graph P ss ops n Ss ent) (S:St) {L L':Nat->Bool} {i:Nat} {o:Oper} (ho:ops[i]?=some o) (hL:∀ e∈bu o,L e=true) (hL':∀ e∈bu o,L' e=true) :
  ∀ x∈o.op.operands,(gN S (dx L 0 ent)).val x=(gN S (dx L' 0 ent)).val x:=by
 intro x hx;obtain ⟨_,h2⟩:=me (G.ok i o ho).1;cases x with
 | tmp t =>
  simp only [St.val];by_cases hk:∃ (j:Nat) (a:AV),ent[j]?=some (some ((t:Nat),a))
  ·obtain ⟨j,a,hj⟩:=hk
   have hjs:j<ops.size:=by
    rcases QO j ent.length with h | h
    ·rw [<- G.size]; exact h
    ·rw [List.getElem?_eq_none h] at hj; cases hj
   have hoj:ops[j]?=some ops[j]:=by simp [hjs]
   have hu:gl ss ops[j]=false:=by
    cases hu:gl ss ops[j]
    ·rfl
    ·have:=(G.turn j _ hoj hu).1;rw [hj] at this;cases this
   have hd:ops[j].dst=some t:=by
    obtain ⟨d,r,k1,_,k2,_⟩:=G.value j _ hoj hu;rw [hj] at k1;injection k1 with k1
    injection k1 with k1
    injection k1 with k1 _
    subst k1;exact k2
   have hje:=h2 t hx j _ hjs hoj hu hd;rw [uf G.once L S hj,uf G.once L' S hj,hL j hje,hL' j hje]
  ·have hk':∀ (j:Nat) a,ent[j]?≠some (some (t,a)):=fun j a e=>hk ⟨j,a,e⟩
   rw [dG L S hk',dG L' S hk']
 | const v=>rfl
 | func f=>rfl
 | global g=>rfl
theorem Id (f:Nat->Nat) (j:Nat):∀ (es:List Nat) (m:Nat),(j∈es\/m.testBit j=true)->(es.foldl (fun m e=>m ||| (1 <<< e) ||| f e) m).testBit j=true
 | [],m,h=>by
  rcases h with h | h
  ·cases h
  ·exact h
 | e::es,m,h=>by
  refine Id f j es _ ?_;rcases h with h | h
  ·rcases Qs.1 h with rfl | h
   ·right;simp [Nat.testBit_or,Nat.one_shiftLeft]
   ·exact .inl h
  ·right;simp [Nat.testBit_or,h]
theorem Fn {i:Nat} {o:Oper} (ho:ops[i]?=some o):∀ e∈bu o,dS ops i e=true:=by
 intro e he;obtain ⟨new,h1,h2,h3⟩:=oW ops.toList [];have h4:=h3 i o (by simpa using ho);simp only [Q0] at h4 h1;unfold dS fa;rw [h1,List.getD_eq_getElem?_getD,h4];exact Id _ e _ _ (.inl he)
theorem Pn {x:AV} (h:x.noGd=true):x.opn []=x:=by cases x <;> first | (cases h; done) | rfl
theorem Fo {n:Nat} {Ss:List St} {ent:List (Option (Nat×AV))} (_:Graph P ss ops n Ss ent) {i:Nat} {o:Oper} (ho:ops[i]?=some o):∀ e∈bu o,dS ops i e=true:=by
 intro e he;exact Fn ho e he
theorem P1 (hss:ss.okA P M w0) {hd:Array Oper} {n:Nat} {Ss:List St} {ent:List (Option (Nat×AV))} (G:Graph P ss hd n Ss ent) (hks:hd.size<=ops.size) (hhd:∀ i,i<hd.size->ops[i]?=hd[i]?) (hedge:∀ (i:Nat) o,ops[i]?=some o->∀ e∈bu o,e<i)
  (htail:∀ (i:Nat) o,hd.size<=i->ops[i]?=some o->∀ j,j<i->((fa ops).getD i 0).testBit j=true) {ds:List Deferred} {Sr:St} (hSr:Ss[ec ss hd hd.size]?=some Sr)
  (hrest:∀ a w,Sat M p0 w0 (gN Sr (dx (fun _=>true) 0 ent)) a.tmps w->a.defers=ds->wpList P ops Q (ops.toList.drop hd.size) a w) :
  ∀ (fuel:Nat) (listed:Array Bool) (a:Act) (w:World) (m:Nat) (S:St),listed.size=ops.size->xc listed ops.size<=fuel->HJ ops (fun j=>listed.getD j true)->(∀ i o,hd[i]?=some o->gl ss o=true->listed.getD i true=decide (ec ss hd i<m))->m<=ec ss hd hd.size->Ss[m]?=some S->(∀ j,hd.size<=j->j<ops.size->listed.getD j true=false) ->
   Sat M p0 w0 (gN S (dx (fun j=>listed.getD j true) 0 ent)) a.tmps w->a.defers=ds->wpAny P .any ops Q fuel listed a w:=by
 have sizeOf:∀ (i:Nat) o,hd[i]?=some o->i<hd.size:=by
  intro i o ho;rcases QO i hd.size with h | h
  ·exact h
  ·rw [Array.getElem?_eq_none h] at ho; cases ho
 have liftO:∀ (i:Nat) o,hd[i]?=some o->ops[i]?=some o:=fun i o ho=>by rw [hhd i (sizeOf i o ho)]; exact ho
 have ofWait:∀ (listed:Array Bool),HJ ops (fun j=>listed.getD j true)->∀ (i:Nat) o,hd[i]?=some o->(∀ e∈bu o,listed.getD e true=true)->∀ j,dS hd i j=true->listed.getD j true=true:=by
  intro listed hD i o ho he j hj;have hin:=lz (ops:=hd) (L:=fun j=>j<hd.size/\listed.getD j true=true) (fun i oi hi hoi e hee=>⟨by have:=G.edge i oi hoi e hee; omega,hD i oi hi.2 (liftO i oi hoi) e hee⟩) (fun i hi=>hi.1) i o ho (fun e hee=>⟨by have:=G.edge i o ho e hee; have:=sizeOf i o ho; omega,he e hee⟩) j hj;exact hin.2
 have fin:∀ (fuel:Nat) (listed:Array Bool) (a:Act) (w:World) (m:Nat) (S:St),listed.size=ops.size->xc listed ops.size<=fuel->(∀ j,hd.size<=j->j<ops.size->listed.getD j true=false)->(∀ j,j<hd.size->listed.getD j true=true)->(∀ i o,hd[i]?=some o->gl ss o=true->listed.getD i true=decide (ec ss hd i<m))->m<=ec ss hd hd.size->Ss[m]?=some S ->
   Sat M p0 w0 (gN S (dx (fun j=>listed.getD j true) 0 ent)) a.tmps w->a.defers=ds->wpAny P .any ops Q fuel listed a w:=by
  intro fuel listed a w m S hsz hc hT hall hE hm hSm hS hds
  have hmr:m=ec ss hd hd.size:=by
   rcases QO m (ec ss hd hd.size) with hlt | hge
   ·exfalso
    have:∀ k,k<=hd.size->ec ss hd k<=m:=by
     intro k
     induction k with
     | zero=>intro _; simp [ec]
     | succ k ih =>
      intro hk;have ho:hd[k]?=some hd[k]:=by simp [show k<hd.size by omega]
      have h1:=ih (by omega);rw [my ho];split
      ·rename_i hu;have h2:=hE k _ ho hu;rw [hall k (by omega)] at h2;have:=tM h2.symm;omega
      ·omega
    have:=this hd.size (QI _);omega
   ·omega
  subst hmr;rw [hSr] at hSm;injection hSm with hSm
  subst hSm;have hcg:=Hr (listed:=listed) (k:=hd.size) ops.size hT;refine I7 hedge htail fuel hd.size listed a w (by omega) (QI _) hsz (fun j hj=>?_) (hrest a w (hS.congrE ?_ rfl rfl) hds)
  ·by_cases hjk:j<hd.size
   ·rw [hall j hjk,Rm hjk]
   ·rw [hT j (by omega) hj,Rz hjk]
  funext s;by_cases hk:∃ (j:Nat) (b:AV),ent[j]?=some (some (s,b))
  ·obtain ⟨j,b,hj⟩:=hk
   have hjs:j<hd.size:=by
    rcases QO j ent.length with h | h
    ·rw [<- G.size]; exact h
    ·rw [List.getElem?_eq_none h] at hj; cases hj
   rw [uf G.once _ _ hj,uf G.once _ _ hj,hall j hjs]
  ·have hk':∀ (j:Nat) a,ent[j]?≠some (some (s,a)):=fun j a e=>hk ⟨j,a,e⟩
   rw [dG _ _ hk',dG _ _ hk']
 intro fuel
 induction fuel with
 | zero =>
  intro listed a w m S hsz hc hD hE hm hSm hT hS hds;have hall:=xb (listed:=listed) ops.size (by omega);exact fin 0 listed a w m S hsz hc hT (fun j hj=>hall j (by omega)) hE hm hSm hS hds
 | succ fuel ih =>
  intro listed a w m S hsz hc hD hE hm hSm hT hS hds;by_cases hopen:∃ j,j<hd.size/\listed.getD j true=false;rotate_left
  ·refine fin (fuel+1) listed a w m S hsz hc hT (fun j hj=>?_) hE hm hSm hS hds;cases hb:listed.getD j true
   ·exact absurd ⟨j,hj,hb⟩ hopen
   ·rfl
  obtain ⟨i0,hi0,hi0l,hi0a⟩:=pp hd.size hopen;refine ⟨fun h0=>?_,fun i hi=>?_⟩
  ·exfalso;have ho:ops[i0]?=some ops[i0]:=by simp [show i0<ops.size by omega]
   have:i0∈Region.ready .any ops listed:=dZ.2 ⟨by omega,hi0l,_,ho,fun e he=>by
    have:=hedge i0 _ ho e he;rw [jE (by omega)];exact hi0a e this⟩
   rw [h0] at this;cases this
  ·obtain ⟨h1,h2,o,hoo,h3⟩:=dZ.1 hi
   have hik:i<hd.size:=by
    rcases QO i hd.size with h | h
    ·exact h
    ·exfalso;have hw:=htail i o h hoo i0 (by omega)
     have he3:∀ e∈bu o,listed.getD e true=true:=fun e he=>by
      have he':=h3 e he;have hes:e<listed.size:=by have:=hedge i o hoo e he; omega
      rw [<- jE hes];exact he'
     have hin:=lz (ops:=ops) (L:=fun j=>j<ops.size/\listed.getD j true=true) (fun i oi hi hoi e hee=>⟨by have:=hedge i oi hoi e hee; omega,hD i oi hi.2 hoi e hee⟩) (fun i hi=>hi.1) i o hoo (fun e hee=>⟨by have:=hedge i o hoo e hee; omega,he3 e hee⟩) i0 hw;rw [hi0l] at hin;exact absurd hin.2 (by simp)
   have ho:hd[i]?=some o:=by rw [<- hhd i hik]; exact hoo
   have h3':∀ e∈bu o,listed.getD e true=true:=fun e he=>by
    have he':=h3 e he
    have hes:e<listed.size:=by
     rcases QO e listed.size with h | h
     ·exact h
     ·simp [h] at he'
    rw [<- jE hes];exact he'
   have hsz':(listed.setIfInBounds i true).size=ops.size:=by simpa using hsz
   have hT':∀ j,hd.size<=j->j<ops.size->(listed.setIfInBounds i true).getD j true=false:=fun j hj hjs=>by
    rw [kh,hT j hj hjs,dX (by omega)]; rfl
   have hc':xc (listed.setIfInBounds i true) ops.size<=fuel:=by
    have:=(BP h2 ops.size).2 h1;omega
   have hLs:∀ j,(listed.setIfInBounds i true).getD j true=(listed.getD j true||Nat.beq j i):=fun j=>kh
   have hD':HJ ops (fun j=>(listed.setIfInBounds i true).getD j true):=by
    intro j oj hj hoj e he;simp only [hLs,Ri] at hj |-;rcases hj with hj | hj
    ·exact .inl (hD j oj hj hoj e he)
    ·have:=CC hj;subst this;rw [hoo] at hoj;injection hoj with hoj
     subst hoj;exact .inl (h3' e he)
   obtain ⟨_,hguard,hdlt⟩:=G.ok i o ho;have hwant:Region.wanted o (yielded ops a.tmps)=true:=by simp [Region.wanted,hguard]
   have hwe:=Fo G ho;cases hu:gl ss o
   ·
    obtain ⟨d,r,hent,hrg,hdst,hval⟩:=G.value i o ho hu
    have hperm:Ib ss hd i m=true:=by
     refine Qy.2 fun e he=>?_
     have hes:e<hd.size:=by simpa using he
     have hoe:hd[e]?=some hd[e]:=by simp [hes]
     rw [hoe];simp only;cases hue:gl ss hd[e]
     ·rfl
     ·simp only [SM,Sv];have hle:=hE e _ hoe hue;split
      ·rename_i hme;rw [Rz (by omega)] at hle;cases hw:dS hd i e
       ·rfl
       ·have:=ofWait listed hD i o ho h3' e hw;rw [hle] at this;cases this
      ·rename_i hme;rw [Rm (by omega)] at hle;cases hw:dS hd e i
       ·rfl
       ·have:=ofWait listed hD e _ hoe (fun e' he'=>hD e _ hle (liftO e _ hoe) e' he') i hw;rw [h2] at this;cases this
    obtain ⟨qs,r',hev,hr,hq⟩:=hval m S hSm hperm
    have hl:Hf P ss (gN S (dx (fun j=>listed.getD j true) 0 ent)) [] o=some (qs,r'):=by
     rw [<- hev];exact sm rfl (G.look S ho h3' hwe)
    obtain ⟨p,β,hB⟩:=hS;unfold wpOp;rw [hoo];simp only;rw [if_pos hwant];refine .inl (jS hB hss (aL _) hl hq _ Q (fun v w' p' hS' hle hrv=>?_));rw [hdst];have hn:=G.sn m S hSm;have hset:=hS'.set (d:=d) (a:=r) (x:=v) (Nat.lt_of_lt_of_eq (hdlt d hdst).1 hn.symm) (by rw [<- hr]; exact fi (co _ _) (da (aL _) _ _ hrv));refine ih _ _ w' m S hsz' hc' hD' (fun j oj hoj huj=>?_) hm hSm hT' (Sat.congrE ⟨p',β,hset⟩ ?_ rfl rfl) hds
    ·rw [hLs]
     have hji:j≠i:=by
      rintro rfl;rw [ho] at hoj;injection hoj with hoj
      subst hoj;rw [hu] at huj;cases huj
     rw [dX hji,RY];exact hE j oj hoj huj
    ·funext s;by_cases hs:s=d
     ·subst hs;rw [uf G.once _ _ hent,hLs];simp [St.set]
     ·simp only [St.set,dX hs,QB];by_cases hk:∃ (j:Nat) (b:AV),ent[j]?=some (some (s,b))
      ·obtain ⟨j,b,hj⟩:=hk
       have hji:j≠i:=by
        rintro rfl;rw [hent] at hj;injection hj with hj
        injection hj with hj
        injection hj with hj _
        exact hs hj.symm
       have hbg:b.noGd=true:=by
        have hjs:j<hd.size:=by
         rcases QO j ent.length with h | h
         ·rw [<- G.size]; exact h
         ·rw [List.getElem?_eq_none h] at hj; cases hj
        have hoj:hd[j]?=some hd[j]:=by simp [hjs]
        cases huj:gl ss hd[j]
        ·obtain ⟨d',r',k1,k2,_⟩:=G.value j _ hoj huj;rw [hj] at k1;injection k1 with k1
         injection k1 with k1
         injection k1 with _ k1
         rw [k1]; exact k2
        ·have:=(G.turn j _ hoj huj).1;rw [hj] at this;cases this
       rw [uf G.once _ _ hj,uf G.once _ _ hj,hLs,dX hji,RY];cases listed.getD j true
       ·rfl
       ·exact (gX hbg).symm
      ·have hk':∀ (j:Nat) a,ent[j]?≠some (some (s,a)):=fun j a e=>hk ⟨j,a,e⟩
       rw [dG _ _ hk',dG _ _ hk'];exact (gX (G.noGd m S hSm s)).symm
   ·
    obtain ⟨hent,Si,qs,T,hSi,hev,hq,hnext⟩:=G.turn i o ho hu
    have him:ec ss hd i=m:=by
     have h4:=hE i o ho hu;rw [h2] at h4;have h5:=uZ h4.symm;rcases QO m (ec ss hd i) with hlt | hge
     ·exfalso
      have:∀ k,k<=i->m<ec ss hd k->∃ e oe,e<k/\hd[e]?=some oe/\gl ss oe=true/\ec ss hd e=m:=by
       intro k
       induction k with
       | zero=>intro _ h; simp [ec] at h
       | succ k ih =>
        intro hk h;have hok:hd[k]?=some hd[k]:=by simp [show k<hd.size by omega]
        rw [my hok] at h;by_cases hm2:m<ec ss hd k
        ·obtain ⟨e,oe,q1,q2⟩:=ih (by omega) hm2;exact ⟨e,oe,by omega,q2⟩
        ·split at h
         ·rename_i hu';exact ⟨k,_,by omega,hok,hu',by omega⟩
         ·omega
      obtain ⟨e,oe,q1,q2,q3,q4⟩:=this i (QI _) hlt;have hw:=G.order i e o oe ho q2 hu q3 q1;have hle:=ofWait listed hD i o ho h3' e hw;rw [hE e oe q2 q3,q4] at hle;simp at hle
     ·omega
    rw [him] at hSi hnext;rw [hSm] at hSi;injection hSi with hSi
    subst hSi;obtain ⟨T',hev',hov⟩:=MV (P:=P) (ss:=ss) (B':=gN S (dx (fun j=>listed.getD j true) 0 ent)) hu (fun d hd=>(hdlt d hd).2) hev rfl rfl rfl (G.look S ho h3' hwe);obtain ⟨p,β,hB⟩:=hS;unfold wpOp;rw [hoo];simp only;rw [if_pos hwant]
    have hmlt:m+1<=ec ss hd hd.size:=by
     have h6:=IA (ss:=ss) (ops:=hd) (show i+1<=hd.size by omega);rw [my ho,if_pos hu,him] at h6;exact h6
    refine .inl (si hB hss hev' hq _ Q (fun a' w' hS' hd'=>?_));refine ih _ a' w' (m+1) (FM ss hd T) hsz' hc' hD' (fun j oj hoj huj=>?_) hmlt hnext hT' ((eq hS').weak (fun s=>?_) hov.lh.symm hov.n.symm) (hd'.trans hds)
    ·rw [hLs,hE j oj hoj huj];by_cases hji:j=i
     ·subst hji;rw [him];simp
     ·rw [dX hji,RY];apply SS.2
      have hne:ec ss hd j≠m:=by
       intro e;rcases QO j i with hlt | hge
       ·have h6:=IA (ss:=ss) (ops:=hd) (show j+1<=i by omega);rw [my hoj,if_pos huj] at h6;omega
       ·have h6:=IA (ss:=ss) (ops:=hd) (show i+1<=j by omega);rw [my ho,if_pos hu] at h6;omega
      omega
    ·by_cases hk:∃ (j:Nat) (b:AV),ent[j]?=some (some (s,b))
     ·obtain ⟨j,b,hj⟩:=hk
      have hji:j≠i:=by
       rintro rfl;rw [hent] at hj;cases hj
      rw [uf G.once _ _ hj,hLs,dX hji,RY];cases hlj:listed.getD j true
      ·exact .inr rfl
      ·left
       have hnw:dS hd j i=false:=by
        cases hw:dS hd j i
        ·rfl
        ·exfalso
         have hjs:j<hd.size:=by
          rcases QO j ent.length with h | h
          ·rw [<- G.size]; exact h
          ·rw [List.getElem?_eq_none h] at hj; cases hj
         have hoj:hd[j]?=some hd[j]:=by simp [hjs]
         have:=ofWait listed hD j _ hoj (fun e he=>hD j _ hlj (liftO j _ hoj) e he) i hw;rw [h2] at this;cases this
       obtain ⟨f1,f2⟩:=G.fixed i o ho hu j s b hj hnw;have henv:(gN S (dx (fun j=>listed.getD j true) 0 ent)).env s=b:=by rw [uf G.once _ _ hj,hlj]; rfl
       have hsd:¬ o.dst=some s:=by
        intro hds1
        have hjs:j<hd.size:=by
         rcases QO j ent.length with h | h
         ·rw [<- G.size]; exact h
         ·rw [List.getElem?_eq_none h] at hj; cases hj
        have hoj:hd[j]?=some hd[j]:=by simp [hjs]
        cases huj:gl ss hd[j]
        ·obtain ⟨d',r',k1,_,k2,_⟩:=G.value j _ hoj huj;rw [hj] at k1;injection k1 with k1
         injection k1 with k1
         injection k1 with k1 _
         subst k1;exact hji (G.dist j i _ o s hoj ho k2 hds1)
        ·have:=(G.turn j _ hoj huj).1;rw [hj] at this;cases this
       have:=hov.keep s hsd (by rw [henv]; exact f1) (by rw [henv]; exact f2);show b=(T'.env s).opn [];rw [this,henv];exact (Pn f2).symm
     ·have hk':∀ (j:Nat) a,ent[j]?≠some (some (s,a)):=fun j a e=>hk ⟨j,a,e⟩
      rw [dG _ _ hk',uj];split
      ·exact .inr rfl
      ·left;show (T.env s).opn []=(T'.env s).opn [];rw [hov.env s (by rw [dG _ _ hk',dG _ _ hk'])]
theorem rH:∀ (os:List Oper) (i:Nat) (S:St) (ent:List (Option (Nat×AV))) (ps:List Prop) (Ss:List St) (ent':List (Option (Nat×AV))),iZ P ss ops os i S ent=some (ps,Ss,ent')->∀ S'∈Ss,S'=S\/∃ T,S'=FM ss ops T
 | [],i,S,ent,ps,Ss,ent',h,S',hS'=>by
  simp only [iZ,pS,zn] at h;obtain ⟨_,rfl,_⟩:=h;exact .inl (QA.1 hS')
 | o::os,i,S,ent,ps,Ss,ent',h,S',hS'=>by
  unfold iZ at h;split at h
  ·split at h <;> try cases h
   rename_i ps1 T hev;split at h <;> simp only [pS,zn,reduceCtorEq] at h;rename_i qs Ss1 ent1 hr;obtain ⟨rfl,rfl,rfl⟩:=h;rcases Qs.1 hS' with rfl | hS'
   ·exact .inl rfl
   ·rcases rH os _ _ _ _ _ _ hr S' hS' with rfl | h
    ·exact .inr ⟨T,rfl⟩
    ·exact .inr h
  ·split at h <;> try cases h
   split at h <;> simp only [pS,zn,reduceCtorEq] at h;rename_i qs Ss1 ent1 hr;obtain ⟨rfl,rfl,rfl⟩:=h;exact rH os _ _ _ _ _ _ hr S' hS'
theorem PQ {S S':St} (h1:S.lh=S'.lh) (h2:S.env=S'.env) (h3:S.n=S'.n) (h4:S.lock=S'.lock):S=S':=by
 cases S; cases S';simp only at h1 h2 h3 h4;subst h1 h2 h3 h4;rfl
theorem MD {S0:St} {ps qs:List Prop} {Ss:List St} {ent:List (Option (Nat×AV))} (hgo:iZ P ss ops ops.toList 0 (FM ss ops S0) []=some (ps,Ss,ent)) (hchk:KM P ss ops Ss ent ops.toList 0=some qs) (hok:Qm ss ops S0.n Ss ent=true) (hlen:Ss.length=ec ss ops ops.size+1)
  (hps:∀ q∈ps,q) (hqs:∀ q∈qs,q):Graph P ss ops S0.n Ss ent:=by
 obtain ⟨g1,_,g3,g4⟩:=j6 ops.toList 0 _ [] ps Ss ent hgo (by simp) (by omega) rfl;have e0:ec ss ops 0=0:=by simp [ec]
 simp only [e0,Nat.sub_zero] at g4
 have hU:∀ S'∈Ss,∃ T,S'=FM ss ops T:=fun S' h=>by
  rcases rH _ _ _ _ _ _ _ hgo S' h with h | h
  ·exact ⟨S0,h⟩
  ·exact h
 unfold Qm at hok;simp only [CF] at hok;obtain ⟨⟨k1,k2⟩,k3⟩:=hok
 have sizeOf:∀ (i:Nat) o,ops[i]?=some o->i<ops.size:=by
  intro i o ho;rcases QO i ops.size with h | h
  ·exact h
  ·rw [Array.getElem?_eq_none h] at ho; cases ho
 have hrow:∀ (i:Nat) o,ops[i]?=some o->(ze ss ops ops.size i o&&o.guard.isNone&&(match o.dst with
    | some d=>Nat.blt d S0.n&&Nat.blt d 1000000
    | none=>true) &&
   (!gl ss o||((List.range i).all fun e=>match ops[e]? with
    | some oe=>!gl ss oe||dS ops i e
    | none=>true)&&(List.range ent.length).all fun j=>dS ops j i||match ent[j]? with
     | some (some (_,r))=>(match o.dst with
      | some d=>x4 d r
      | none=>r.noGd)
     | _=>true))=true:=by
  intro i o ho;have:=Qy.1 k1 i (by simpa using sizeOf i o ho);simpa only [ho] using this
 have hdist:∀ (i j:Nat) (oi oj:Oper) (d:Nat),ops[i]?=some oi->ops[j]?=some oj->oi.dst=some d->oj.dst=some d->i=j:=fun i j oi oj d hi hj=>ET ops.toList k2 i j oi oj d (by simpa using hi) (by simpa using hj)
 have hentry:∀ (j d:Nat) (r:AV),ent[j]?=some (some (d,r))->∃ o,ops[j]?=some o/\gl ss o=false/\o.dst=some d/\r.noGd=true:=by
  intro j d r hj
  have hjs:j<ops.size:=by
   rcases QO j ent.length with h | h
   ·omega
   ·rw [List.getElem?_eq_none h] at hj; cases hj
  have ho:ops[j]?=some ops[j]:=by simp [hjs]
  obtain ⟨Sj,_,a1,a2⟩:=g4 j _ (Re _) ho;cases hu:gl ss ops[j]
  ·obtain ⟨_,r',d',b1,b2,_⟩:=a2 hu;rw [hj] at b1;injection b1 with b1
   injection b1 with b1
   injection b1 with b1 b3
   subst b1 b3;exact ⟨_,ho,hu,b2,co _ _⟩
  ·have:=(a1 hu).1;rw [hj] at this;cases this
 have honce:xj ent:=by
  intro i j s a b hi hj;obtain ⟨oi,h1,_,h2,_⟩:=hentry i s a hi;obtain ⟨oj,h3,_,h4,_⟩:=hentry j s b hj;exact hdist i j oi oj s h1 h3 h2 h4
 have hfree:∀ (m:Nat) S,Ss[m]?=some S->∀ (j d:Nat) (r:AV),ent[j]?=some (some (d,r))->S.env d=.any:=by
  intro m S hS j d r hj;obtain ⟨T,rfl⟩:=hU S (Rr hS);obtain ⟨o,h1,h2,h3,_⟩:=hentry j d r hj;have hmem:o∈ops.toList:=Rr (show ops.toList[j]?=some o by simpa using h1);rw [uj,if_pos];simp only [uy,QT];exact RS.2 ⟨o,hmem,by rw [h2]; simp [h3]⟩
 have hokAt:∀ (i:Nat) o,ops[i]?=some o->ze ss ops ops.size i o=true/\o.guard=none/\∀ d,o.dst=some d->d<S0.n/\d<1000000:=by
  intro i o ho;have:=hrow i o ho;simp only [CF] at this;obtain ⟨⟨⟨h1,h2⟩,h3⟩,_⟩:=this;refine ⟨h1,by simpa using h2,fun d hd=>?_⟩;rw [hd] at h3;simp only [CF] at h3;exact ⟨QE h3.1,QE h3.2⟩
 have hbehind:∀ (i:Nat) o,ops[i]?=some o->∀ j,dS ops i j=true->j<i:=by
  intro i o ho j hj;exact lz (ops:=ops) (L:=fun j=>j<i) (fun k ok hk hok e he=>by have:=(me (hokAt k ok hok).1).1 e he; omega) (fun k hk=>by have:=sizeOf i o ho; omega) i o ho (fun e he=>(me (hokAt i o ho).1).1 e he) j hj
 have hcut:∀ (m:Nat) S,Ss[m]?=some S->∀ (i:Nat) o,ops[i]?=some o->gN S (dx (dS ops i) 0 (ent.take i))=gN S (dx (dS ops i) 0 ent):=by
  intro m S hS i o ho;refine PQ rfl (funext fun s=>?_) rfl rfl
  have ho1:xj (ent.take i):=by
   intro a b s x y h1 h2;rw [List.getElem?_take] at h1 h2;split at h1 <;> try cases h1
   split at h2 <;> try cases h2
   exact honce a b s x y h1 h2
  by_cases hk:∃ (j:Nat) (b:AV),ent[j]?=some (some (s,b))
  ·obtain ⟨j,b,hj⟩:=hk;rw [uf honce _ _ hj];by_cases hji:j<i
   ·have:(ent.take i)[j]?=some (some (s,b)):=by rw [List.getElem?_take,if_pos hji]; exact hj
    rw [uf ho1 _ _ this]
   ·have hw:dS ops i j=false:=by
     cases h:dS ops i j
     ·rfl
     ·exact absurd (hbehind i o ho j h) hji
    rw [hw,QB,dG,hfree m S hS j s b hj];intro j' b' hj';rw [List.getElem?_take] at hj';split at hj' <;> try cases hj'
    rename_i hlt;have:=honce j' j s b' b hj' hj;omega
  ·have hk':∀ (j:Nat) a,ent[j]?≠some (some (s,a)):=fun j a e=>hk ⟨j,a,e⟩
   rw [dG _ _ hk',dG];intro j b hj;rw [List.getElem?_take] at hj;split at hj <;> try cases hj
   exact hk' j b hj
 refine ⟨g1,hlen,fun m S hS=>?_,fun m S hS s=>?_,hfree,honce,hdist,hokAt,fun j o ho hu=>?_,fun j o ho hu=>?_,fun i e oi oe hi he hui hue hei=>?_,fun i oi hi hui j d r hj hnw=>?_⟩
 ·exact CC (Qy.1 k3 S (Rr hS))
 ·obtain ⟨T,rfl⟩:=hU S (Rr hS);exact Lh T s
 ·obtain ⟨Sj,a0,_,a2⟩:=g4 j o (Re _) ho;obtain ⟨qs1,r,d,b1,b2,b3,b4⟩:=a2 hu;refine ⟨d,r.opn [],b1,co _ _,b2,fun m S hS hpm=>?_⟩;by_cases hm:m=ec ss ops j
  ·subst hm;rw [hS] at a0;injection a0 with a0
   subst a0;rw [hcut _ S hS j o ho] at b3;exact ⟨qs1,r,b3,rfl,fun q hq=>hps q (b4 q hq)⟩
  ·obtain ⟨qs2,c1,c2⟩:=sx ops.toList 0 qs hchk hqs j o d (r.opn []) (by simpa using ho) (by simpa using b1);rw [Rl] at c1
   have hml:m<Ss.length:=by
    rcases QO m Ss.length with h | h
    ·exact h
    ·rw [List.getElem?_eq_none h] at hS; cases hS
   obtain ⟨S',qs3,r',d1,d2,d3,d4⟩:=sw _ qs2 c1 c2 m (by simpa using hml) hm hpm;rw [hS] at d1;injection d1 with d1
   subst d1;exact ⟨qs3,r',d2,d3,d4⟩
 ·obtain ⟨Sj,a0,a1,_⟩:=g4 j o (Re _) ho;obtain ⟨b1,qs1,T,b2,b3,b4⟩:=a1 hu;refine ⟨b1,Sj,qs1,T,a0,?_,fun q hq=>hps q (b3 q hq),b4⟩;rw [hcut _ Sj a0 j o ho] at b2;exact b2
 ·have:=hrow i oi hi;simp only [CF,Ri,hui,SM,Qz,false_or] at this;have h1:=Qy.1 this.2.1 e (by simpa using hei);simpa [he,hue] using h1
 ·have:=hrow i oi hi;simp only [CF,Ri,hui,SM,Qz,false_or] at this
  have hjl:j<ent.length:=by
   rcases QO j ent.length with h | h
   ·exact h
   ·rw [List.getElem?_eq_none h] at hj; cases hj
  have h1:=Qy.1 this.2.2 j (by simpa using hjl);rw [hnw,Sv,hj] at h1;simp only at h1;unfold GX;cases hd:oi.dst with
  | none =>
   rw [hd] at h1;exact ⟨fun k hk=>(by cases hk),h1⟩
  | some d0 =>
   rw [hd] at h1;exact G9 r h1
def JG (P:Program) (ss:Specs) (ops:Array Oper) (S:St):Option (List Prop×St):=match yA P ss ops S with
 | some r=>some r
 | none=>yA P ss ops (S.freeze (eG ss ops S))
theorem yD (hss:ss.okA P M w0) {id:Nat} {S S':St} {ps:List Prop} {a:Act} {w:World} (hr:yA P ss ops S=some (ps,S')) (hps:∀ q∈ps,q) (hS:Sat M p0 w0 S a.tmps w)
  (hQ:∀ a' w',Sat M p0 w0 S' a'.tmps w'->a'.defers=a.defers->Q .normal a' w'):(Code.region id ops true).wp P Q a w:=by
 unfold yA at hr;generalize Eq ops ops.size=k at *;have hhd0:∀ i,i<k->ops[i]?=(ops.toList.take k).toArray[i]?:=fun i hi=>by simp [hi]
 have hsz0:k<=ops.size->((ops.toList.take k).toArray).size=k:=fun h=>by simp; omega
 generalize (ops.toList.take k).toArray=hd at *;unfold LN at hr;split at hr <;> try cases hr
 rename_i ps1 Ss ent hgo;split at hr <;> try cases hr
 rename_i qs Sr hchk hlast;split at hr <;> try cases hr
 rename_i hck;split at hr <;> simp only [pS,zn,reduceCtorEq] at hr;rename_i qs2 S2 hrun;simp only [CF] at hck;obtain ⟨rfl,rfl⟩:=hr;have hlen:=CC hck.1.2;have hkle:=QE hck.2.1;have hksz:=hsz0 hkle;subst hksz
 have sizeOf:∀ (i:Nat) o,ops[i]?=some o->i<ops.size:=by
  intro i o ho;rcases QO i ops.size with h | h
  ·exact h
  ·rw [Array.getElem?_eq_none h] at ho; cases ho
 have hrow:∀ (i:Nat) o,ops[i]?=some o->((bu o).all (fun e=>Nat.blt e i)&&(Nat.blt i hd.size||(List.range i).all (fun j=>((fa ops).getD i 0).testBit j)))=true:=by
  intro i o ho;have:=Qy.1 hck.2.2 i (by simpa using sizeOf i o ho);simpa only [ho] using this
 have hedge:∀ (i:Nat) o,ops[i]?=some o->∀ e∈bu o,e<i:=by
  intro i o ho e he;have:=hrow i o ho;simp only [CF] at this;simpa using Qy.1 this.1 e he
 have htail:∀ (i:Nat) o,hd.size<=i->ops[i]?=some o->∀ j,j<i->((fa ops).getD i 0).testBit j=true:=by
  intro i o hi ho j hj;have:=hrow i o ho;simp only [CF,Ri] at this;rcases this.2 with h | h
  ·have:=QE h; omega
  ·exact Qy.1 h j (by simpa using hj)
 have G:=MD hgo hchk hck.1.1.2 hlen (fun q hq=>hps q (L3 _ hq)) (fun q hq=>hps q (Qw _ (L3 _ hq)))
 have hSr:Ss[ec ss hd hd.size]?=some Sr:=by
  rw [List.getLast?_eq_getElem?,hlen] at hlast;exact hlast
 have hS0:Ss[0]?=some (FM ss hd S):=(j6 hd.toList 0 _ [] ps1 Ss ent hgo (by simp) (by omega) rfl).2.2.1
 have hS2:Sat M p0 w0 S.clean a.tmps { w with drawn:=w.drawn+1 }:=by
  obtain ⟨p,β,h⟩:=eq hS;exact ⟨p,β,⟨h.keep.os,h.keep.tape,h.keep.output,h.keep.size,h.keep.block⟩,h.agr,h.old,h.size,h.lhs,h.owns,h.inj,h.env⟩
 have hempty:∀ j,j<ops.size->(Array.replicate ops.size false).getD j true=false:=fun j hj=>by simp [hj]
 refine wp_region_any hck.1.1.1 ?_;refine P1 (M:=M) (p0:=p0) (w0:=w0) hss G hkle hhd0 hedge htail (ds:=a.defers) hSr (fun a' w' hS' hd'=>?_) ops.size _ a _ 0 (FM ss hd S) (by simp) ?_ ?_ ?_ (Re _) hS0 (fun j _ hj=>hempty j hj) ?_ rfl
 ·exact lF hss _ _ S2 qs2 a' w' hrun (fun q hq=>hps q (Qw _ (Qw _ hq))) hS' (fun a'' w'' h5 h6=>hQ a'' w'' h5 (h6.trans hd'))
 ·have:∀ n,xc (Array.replicate ops.size false) n<=n:=by
   intro n
   induction n with
   | zero=>exact QI _
   | succ n ih=>simp only [xc]; split <;> omega
  exact this _
 ·intro i o hi ho;have hi:(Array.replicate ops.size false).getD i true=true:=hi;rw [hempty i (sizeOf i o ho)] at hi;cases hi
 ·intro i o ho _
  have his:i<hd.size:=by
   rcases QO i hd.size with h | h
   ·exact h
   ·rw [Array.getElem?_eq_none h] at ho; cases ho
  rw [hempty i (by omega)];simp
 ·refine hS2.weak (fun s=>?_) rfl rfl;by_cases hk:∃ (j:Nat) (b:AV),ent[j]?=some (some (s,b))
  ·obtain ⟨j,b,hj⟩:=hk
   have hjs:j<hd.size:=by
    rcases QO j ent.length with h | h
    ·rw [<- G.size]; exact h
    ·rw [List.getElem?_eq_none h] at hj; cases hj
   rw [uf G.once _ _ hj,hempty j (by omega)];exact .inr rfl
  ·have hk':∀ (j:Nat) a,ent[j]?≠some (some (s,a)):=fun j a e=>hk ⟨j,a,e⟩
   rw [dG _ _ hk',uj];split
   ·exact .inr rfl
   ·exact .inl rfl
end
section
variable {M:Nat->Prop} {p0:PH} {w0:World} {P:Program} {ss:Specs} {ops:Array Oper} {Q:Exit->Act->World->Prop}
def HS (_:Program) (_:Specs) (_:Array Oper) (_:St):Option (List Prop×St):=none
theorem yE (_:ss.okA P M w0) {id:Nat} {S S':St} {ps:List Prop} {a:Act} {w:World} (hr:HS P ss ops S=some (ps,S')) (_:∀ q∈ps,q) (_:Sat M p0 w0 S a.tmps w)
  (_:∀ a' w',Sat M p0 w0 S' a'.tmps w'->a'.defers=a.defers->Q .normal a' w'):(Code.region id ops true).wp P Q a w:=by cases hr
def JH (P:Program) (ss:Specs) (ops:Array Oper) (S:St):Option (List Prop×St):=match HS P ss ops S with
 | some r=>some r
 | none=>HS P ss ops (S.freeze (eG ss ops S))
def na (P:Program) (ss:Specs) (ops:Array Oper) (S:St):Option (List Prop×St):=match p8 P ss ops S with
 | some r=>some r
 | none=>match JG P ss ops S with
  | some r=>some r
  | none=>JH P ss ops S
theorem Dy (hss:ss.okA P M w0) {S:St} {id:Nat} {S':St} {ps:List Prop} {a:Act} {w:World} (hr:JG P ss ops S=some (ps,S')) (hps:∀ q∈ps,q) (hS:Sat M p0 w0 S a.tmps w)
  (hQ:∀ a' w',Sat M p0 w0 S' a'.tmps w'->a'.defers=a.defers->Q .normal a' w'):(Code.region id ops true).wp P Q a w:=by
 unfold JG at hr;split at hr
 ·rename_i r h;injection hr with hr
  subst hr;exact yD hss h hps hS hQ
 ·obtain ⟨pF,βF,hSF⟩:=hS;obtain ⟨p1F,_,hS1F⟩:=bZ (eG ss ops S) S pF hSF;exact yD hss hr hps ⟨p1F,βF,hS1F⟩ hQ
theorem Dz (hss:ss.okA P M w0) {S:St} {id:Nat} {S':St} {ps:List Prop} {a:Act} {w:World} (hr:JH P ss ops S=some (ps,S')) (hps:∀ q∈ps,q) (hS:Sat M p0 w0 S a.tmps w)
  (hQ:∀ a' w',Sat M p0 w0 S' a'.tmps w'->a'.defers=a.defers->Q .normal a' w'):(Code.region id ops true).wp P Q a w:=by
 unfold JH at hr;split at hr
 ·rename_i r h;injection hr with hr
  subst hr;exact yE hss h hps hS hQ
 ·obtain ⟨pF,βF,hSF⟩:=hS;obtain ⟨p1F,_,hS1F⟩:=bZ (eG ss ops S) S pF hSF;exact yE hss hr hps ⟨p1F,βF,hS1F⟩ hQ
theorem AT (hss:ss.okA P M w0) {S0:St} {id:Nat} {S':St} {ps:List Prop} {a:Act} {w:World} (hr:na P ss ops S0.clean=some (ps,S')) (hps:∀ q∈ps,q) (hS:Sat M p0 w0 S0.clean a.tmps w)
  (hQ:∀ a' w',Sat M p0 w0 S' a'.tmps w'->a'.defers=a.defers->Q .normal a' w'):(Code.region id ops true).wp P Q a w:=by
 unfold na at hr;split at hr
 ·rename_i r h;injection hr with hr
  subst hr;exact DA hss h hps hS hQ
 ·split at hr
  ·rename_i r h;injection hr with hr
   subst hr;exact Dy hss h hps hS hQ
  ·exact Dz hss hr hps hS hQ
def nb (b:Bool) (P:Program) (ss:Specs) (ops:Array Oper) (S:St):Option (List Prop×St):=bif b then (match JG P ss ops S with
 | some r=>some r
 | none=>JH P ss ops S) else na P ss ops S
theorem AU (hss:ss.okA P M w0) {S0:St} {b:Bool} {id:Nat} {S':St} {ps:List Prop} {a:Act} {w:World} {Q:Exit->Act->World->Prop} (hr:nb b P ss ops S0.clean=some (ps,S')) (hps:∀ q∈ps,q) (hS:Sat M p0 w0 S0.clean a.tmps w)
  (hQ:∀ a' w',Sat M p0 w0 S' a'.tmps w'->a'.defers=a.defers->Q .normal a' w'):(Code.region id ops true).wp P Q a w:=by
 unfold nb at hr;cases b
 ·exact AT hss hr hps hS hQ
 ·simp only [QS] at hr;split at hr
  ·rename_i r h;injection hr with hr
   subst hr;exact Dy hss h hps hS hQ
  ·exact Dz hss hr hps hS hQ
end
def B4 (bad:Nat->Bool) (x:AV):Prop:=x.scrub bad=x/\x.noGd=true
structure Fr (L:List Nat) (bad:Nat->Bool) (S S':St):Prop where
 n:S'.n=S.n
 lock:S'.lock=S.lock
 env:∀ s,L.contains s=false->B4 bad (S.env s)->S'.env s=S.env s
 lh:∀ d,S.lock d=true->(∀ e,S.lh d=some e->e.scrub bad=e)->S'.lh d=S.lh d
 frames:∀ d tm env,S.lh d=some (.frame tm env)->∃ env',S'.lh d=some (.frame tm env')/\∀ s,B4 bad (env s)->env' s=env s
structure Tidy (bad:Nat->Bool) (S:St):Prop where
 lock:∀ d,S.lock d=true->bad d=false
 row:∀ d e T xs,S.lh d=some (.row e T xs)->S.lock d=false->bad d=true
 frame:∀ d tm env,S.lh d=some (.frame tm env)->S.lock d=true
theorem Fr.refl (L:List Nat) (bad:Nat->Bool) (S:St):Fr L bad S S:=⟨rfl,rfl,fun _ _ _=>rfl,fun _ _ _=>rfl,fun _ _ env h=>⟨env,h,fun _ _=>rfl⟩⟩
theorem Fr.trans {L:List Nat} {bad:Nat->Bool} {S S1 S2:St} (h:Fr L bad S S1) (k:Fr L bad S1 S2):Fr L bad S S2:=by
 refine ⟨k.n.trans h.n,k.lock.trans h.lock,fun s hs hst=>?_,fun d hd hst=>?_,fun d tm env he=>?_⟩
 ·have h1:=h.env s hs hst;exact (k.env s hs (by rw [h1]; exact hst)).trans h1
 ·have h1:=h.lh d hd hst;exact (k.lh d (by rw [h.lock]; exact hd) (by rw [h1]; exact hst)).trans h1
 ·obtain ⟨e1,k1,k2⟩:=h.frames d tm env he;obtain ⟨e2,k3,k4⟩:=k.frames d tm e1 k1;exact ⟨e2,k3,fun s hs=>(k4 s (by rw [k2 s hs]; exact hs)).trans (k2 s hs)⟩
theorem dF {b1 bad:Nat->Bool} (hb:∀ d,b1 d=true->bad d=true):∀ (x:AV),x.scrub bad=x->x.scrub b1=x:=by
 intro x
 induction x with
 | own d=>intro h; simp only [AV.scrub] at h |-; cases h1:b1 d; rfl; rw [hb d h1] at h; cases h
 | loc d off=>intro h; simp only [AV.scrub] at h |-; cases h1:b1 d; rfl; rw [hb d h1] at h; cases h
 | el d T i off=>intro h; simp only [AV.scrub] at h |-; cases h1:b1 d; rfl; rw [hb d h1] at h; cases h
 | mp d=>intro h; simp only [AV.scrub] at h |-; cases h1:b1 d; rfl; rw [hb d h1] at h; cases h
 | osl d T i n=>intro h; simp only [AV.scrub] at h |-; cases h1:b1 d; rfl; rw [hb d h1] at h; cases h
 | psl d i n=>intro h; simp only [AV.scrub] at h |-; cases h1:b1 d; rfl; rw [hb d h1] at h; cases h
 | fn f c1 c2 =>
  intro h;simp only [AV.scrub] at h |-
  have key:∀ (c:List (Nat×Nat)),(c.any fun x=>b1 x.1)=true->(c.any fun x=>bad x.1)=true:=by
   intro c hc;obtain ⟨x,hx,h1⟩:=RI.1 hc;exact RI.2 ⟨x,hx,hb _ h1⟩
  cases h1:(c1.any fun x=>b1 x.1)||(c2.any fun x=>b1 x.1)
  ·rfl
  ·exfalso
   have:((c1.any fun x=>bad x.1)||(c2.any fun x=>bad x.1))=true:=by
    simp only [Ri] at h1 |-;exact h1.imp (key c1) (key c2)
   rw [this] at h;cases h
 | pair a b iha ihb=>intro h; simp only [AV.scrub,AV.pair.injEq] at h |-; exact ⟨iha h.1,ihb h.2⟩
 | tup a b iha ihb=>intro h; simp only [AV.scrub,AV.tup.injEq] at h |-; exact ⟨iha h.1,ihb h.2⟩
 | gd g w a iha=>intro h; simp only [AV.scrub,AV.gd.injEq,Sb] at h |-; exact iha h
 | _=>intro _; rfl
theorem iu {b1 bad:Nat->Bool} (hb:∀ d,b1 d=true->bad d=true) (e:LE) (h:e.scrub bad=e):e.scrub b1=e:=by
 cases e with
 | cells c=>simp only [LE.scrub,LE.cells.injEq] at h |-; exact dF hb c h
 | mapo k V m x c =>
  simp only [LE.scrub,LE.mapo.injEq,heq_eq_eq,Sb] at h |-;exact dF hb c h
 | frame tm env=>simp only [LE.scrub,LE.frame.injEq,Sb] at h |-; funext s; exact dF hb _ (congrFun h s)
 | _=>rfl
theorem wq {x:AV} (h:x.noGd=true) (d:Nat):x.killG d=x:=by cases x <;> first | (cases h; done) | rfl
section
variable {L:List Nat} {bad:Nat->Bool} {S:St}
theorem iG {d:Nat} (hd:L.contains d=true) (x:AV):Fr L bad S (S.set d x):=by
 refine ⟨rfl,rfl,fun s hs hst=>?_,fun _ _ _=>rfl,fun _ _ env h=>⟨env,h,fun _ _=>rfl⟩⟩;have hne:s≠d:=by intro e; subst e; rw [hd] at hs; cases hs
 simp only [St.set,cj hne,QB];exact wq hst.2 d
theorem eJ (h:Tidy bad S) (d:Nat) (x:AV):Tidy bad (S.set d x):=⟨h.lock,h.row,h.frame⟩
theorem cW (h:Tidy bad S) {d:Nat} (hd:S.lock d=false) (e:LE):Fr L bad S (S.entry d e):=by
 refine ⟨rfl,rfl,fun _ _ _=>rfl,fun d' hd' _=>?_,fun d' tm env he=>⟨env,?_,fun _ _=>rfl⟩⟩
 ·have hne:d'≠d:=by intro e; subst e; rw [hd] at hd'; cases hd'
  simp only [St.entry,cj hne,QB]
 ·have hne:d'≠d:=by intro e; subst e; have:=h.frame _ _ _ he; rw [hd] at this; cases this
  simp only [St.entry,cj hne,QB];exact he
theorem bW (h:Tidy bad S) {d:Nat} {e:LE} (he:∀ t T xs,e=.row t T xs->bad d=true) (hf:∀ tm env,e≠.frame tm env:=by intro _ _ h; cases h):Tidy bad (S.entry d e):=by
 refine ⟨h.lock,fun d' t T xs hd' hl=>?_,fun d' tm env hd'=>?_⟩
 ·by_cases hne:d'=d
  ·subst hne;simp only [St.entry,eB,QS,pS] at hd';exact he t T xs hd'
  ·simp only [St.entry,cj hne,QB] at hd';exact h.row d' t T xs hd' hl
 ·by_cases hne:d'=d
  ·subst hne;simp only [St.entry,eB,QS,pS] at hd';exact absurd hd' (hf tm env)
  ·simp only [St.entry,cj hne,QB] at hd';exact h.frame d' tm env hd'
theorem wD (h:Tidy bad S) {d:Nat} (hd:bad d=true) (e:LE) (hf:∀ tm env,e≠.frame tm env:=by intro _ _ h; cases h):Fr L bad S (S.fresh d e)/\Tidy bad (S.fresh d e):=by
 have hsub:∀ x,Nat.beq x d=true->bad x=true:=fun x hx=>by rw [CC hx]; exact hd
 have hlk:∀ d',S.lock d'=true->d'≠d:=by intro d' hd' e; subst e; have:=h.lock _ hd'; rw [hd] at this; cases this
 refine ⟨⟨rfl,rfl,fun _ _ hst=>dF hsub _ hst.1,fun d' hd' hst=>?_,fun d' tm env he=>?_⟩,⟨h.lock,fun d' t T xs hd' hl=>?_,fun d' tm env hd'=>?_⟩⟩
 ·simp only [St.fresh,St.entry,St.scrub,cj (hlk d' hd'),QB];cases hl:S.lh d' with
  | none=>rfl
  | some e0=>simp only [Q6,iu hsub e0 (hst e0 hl)]
 ·have hne:=hlk d' (h.frame _ _ _ he);refine ⟨fun s=>(env s).scrub (fun x=>Nat.beq x d),?_,fun s hs=>dF hsub _ hs.1⟩;simp only [St.fresh,St.entry,St.scrub,cj hne,QB,he,Q6,LE.scrub]
 ·by_cases hne:d'=d
  ·subst hne; exact hd
  ·simp only [St.fresh,St.entry,St.scrub,cj hne,QB,Dm] at hd';obtain ⟨e0,h1,h2⟩:=hd';cases e0 <;> simp only [LE.scrub,reduceCtorEq] at h2;exact h.row d' _ _ _ h1 hl
 ·by_cases hne:d'=d
  ·subst hne;simp only [St.fresh,St.entry,eB,QS,pS] at hd';exact absurd hd' (hf tm env)
  ·simp only [St.fresh,St.entry,St.scrub,cj hne,QB,Dm] at hd';obtain ⟨e0,h1,h2⟩:=hd';cases e0 <;> simp only [LE.scrub,reduceCtorEq] at h2;exact h.frame d' _ _ h1
theorem G8 (h:Tidy bad S) (d:Nat):Fr L bad S (S.freeze1 d)/\Tidy bad (S.freeze1 d):=by
 unfold St.freeze1;split
 ·split
  ·exact ⟨Fr.refl _ _ _,h⟩
  ·rename_i hl;exact ⟨cW h (by simpa using hl) _,bW h (fun t T xs e=>by cases e)⟩
 ·split
  ·exact ⟨Fr.refl _ _ _,h⟩
  ·rename_i hl;exact ⟨cW h (by simpa using hl) _,bW h (fun t T xs e=>by cases e)⟩
 ·exact ⟨Fr.refl _ _ _,h⟩
theorem dm:∀ (ds:List Nat) (S:St),Tidy bad S->Fr L bad S (S.freeze ds)/\Tidy bad (S.freeze ds)
 | [],S,h=>⟨Fr.refl _ _ _,h⟩
 | d::ds,S,h=>by
  have h1:=G8 (L:=L) h d;have h2:=dm ds (S.freeze1 d) h1.2;exact ⟨h1.1.trans h2.1,h2.2⟩
theorem EC {d:Nat} (hd:∀ k,bad (bB d k)=true):∀ (Rs:List RT) (k:Nat) (x:eD Rs) (S:St),Tidy bad S->Fr L bad S (lH d k Rs x S)/\Tidy bad (lH d k Rs x S):=by
 have put:∀ (R:RT) (x:R.den) (k:Nat) (S:St),Tidy bad S->Fr L bad S (R.put x (bB d k) S)/\Tidy bad (R.put x (bB d k) S):=by
  intro R x k S h;cases R with
  | dat T=>exact ⟨Fr.refl _ _ _,h⟩
  | own e T=>exact wD h (hd k) _
  | map k' V=>exact wD h (hd k) _
 intro Rs
 induction Rs with
 | nil=>intro k x S h; exact ⟨Fr.refl _ _ _,h⟩
 | cons R Rs ih =>
  intro k x S h;cases Rs with
  | nil=>exact put R x k S h
  | cons U Rs =>
   have h1:=put R x.1 k S h;have h2:=ih (k+1) x.2 _ h1.2;exact ⟨h1.1.trans h2.1,h2.2⟩
def Named (L:List Nat) (bad:Nat->Bool):Prop:=∀ d,L.contains d=true->∀ k,bad (bB d k)=true
theorem Named.at0 (h:Named L bad) {d:Nat} (hd:L.contains d=true):bad d=true:=by
 have:=h d hd 0;simpa [bB] using this
theorem cH (hN:Named L bad) (h:Tidy bad S) {d:Nat} (hd:L.contains d=true) (e:LE) (x:AV) (hf:∀ tm env,e≠.frame tm env:=by intro _ _ h; cases h):Fr L bad S ((S.fresh d e).set d x)/\Tidy bad ((S.fresh d e).set d x):=by
 have h1:=wD (L:=L) h (hN.at0 hd) e hf;exact ⟨h1.1.trans (iG hd x),eJ h1.2 d x⟩
theorem Bp {P:Program} (h:Tidy bad S) {t:TypeId} {m x v:AV} {ps:List Prop} {S':St} (he:g9 P S t m x v=some (ps,S')):Fr L bad S S'/\Tidy bad S':=by
 unfold g9 at he;split at he <;> try cases he
 rename_i d k' n _;split at he <;> try cases he
 split at he <;> try cases he
 split at he
 ·cases he
 rename_i hl;split at he <;> simp only [pS,zn,reduceCtorEq] at he;obtain ⟨_,rfl⟩:=he;have h1:=dm (L:=L) (bad:=bad) v.owns S h;have hl2:(S.freeze v.owns).lock d=false:=by rw [(cQ _ _).2.2]; simpa using hl
 exact ⟨h1.1.trans (cW h1.2 hl2 _),bW h1.2 (fun t T xs e=>by cases e)⟩
theorem tN {b:Bool} {P:Program} (h:Tidy bad S) {t:TypeId} {m x v:AV} {ps:List Prop} {S':St} (he:gv b P S t m x v=some (ps,S')):Fr L bad S S'/\Tidy bad S':=by
 unfold gv at he;cases b with
 | true =>
  simp only [QS] at he;unfold lT at he;split at he <;> try cases he
  split at he <;> try cases he
  split at he <;> try cases he
  split at he
  ·cases he
  rename_i hl;split at he <;> simp only [pS,zn,reduceCtorEq] at he;obtain ⟨_,rfl⟩:=he;exact ⟨cW h (by simpa using hl) _,bW h (fun t T xs e=>by cases e)⟩
 | false =>
  simp only [QB] at he;split at he
  ·rename_i h1;injection he with he
   subst he;unfold eU at h1;split at h1 <;> try cases h1
   split at h1 <;> try cases h1
   split at h1 <;> try cases h1
   split at h1
   ·cases h1
   rename_i hl;split at h1 <;> simp only [pS,zn,reduceCtorEq] at h1;obtain ⟨_,rfl⟩:=h1;exact ⟨cW h (by simpa using hl) _,bW h (fun t T xs e=>by cases e)⟩
  ·exact Bp h he
theorem Bn (hN:Named L bad) (h:Tidy bad S) {d:Nat} (hdL:L.contains d=true) {r:RowFn} {x:AV} {rest:List AV} {ps:List Prop} {S':St} (he:jQ S d r x rest=some (ps,S')) :
  Fr L bad S S'/\Tidy bad S':=by
 unfold jQ at he;have h1:=dm (L:=L) (bad:=bad) ((r.mid rest).flatMap AV.owns) S h;have hlk:(S.freeze ((r.mid rest).flatMap AV.owns)).lock=S.lock:=(cQ _ _).2.2;generalize S.freeze ((r.mid rest).flatMap AV.owns)=S1 at *;split at he <;> try cases he
 rename_i n xs hxr;obtain ⟨_,hn⟩:=o8 hxr;split at he <;> try cases he
 rename_i ys y _ _;split at he <;> simp only [pS,zn,reduceCtorEq] at he;rename_i hb;obtain ⟨rfl,rfl⟩:=he;simp only [CF,QN] at hb;have hl:S1.lock n=false:=by rw [hlk]; exact hb.1.1
 cases r.out
 ·simp only [QB];have h2:Fr L bad S1 (S1.entry n (.row r.e r.T (r.F xs ys y))):=cW h1.2 hl _;have h3:Tidy bad (S1.entry n (.row r.e r.T (r.F xs ys y))):=bW h1.2 (fun t T xs e=>h1.2.row _ _ _ _ hn hl);exact ⟨(h1.1.trans h2).trans (iG hdL _),eJ h3 d _⟩
 ·simp only [QS];have h2:Fr L bad S1 (S1.entry n .dead):=cW h1.2 hl .dead;have h3:Tidy bad (S1.entry n .dead):=bW h1.2 (fun t T xs e=>by cases e);have h4:=cH (L:=L) hN h3 hdL (.row r.e r.T (r.F xs ys y)) (.own d);exact ⟨(h1.1.trans h2).trans h4.1,h4.2⟩
theorem Bq (hN:Named L bad) (h:Tidy bad S) {d:Nat} (hdL:L.contains d=true) {r:BoxFn} {x:AV} {rest:List AV} {ps:List Prop} {S':St} (he:jR S d r x rest=some (ps,S')) :
  Fr L bad S S'/\Tidy bad S':=by
 unfold jR at he;split at he <;> try cases he
 rename_i n;have h1:=dm (L:=L) (bad:=bad) (dn S n++rest.flatMap AV.owns) S h;have hlk:(S.freeze (dn S n++rest.flatMap AV.owns)).lock=S.lock:=(cQ _ _).2.2;generalize S.freeze (dn S n++rest.flatMap AV.owns)=S1 at *;split at he <;> try cases he
 rename_i c hn;split at he <;> try cases he
 rename_i x0 y _ _;split at he <;> simp only [pS,zn,reduceCtorEq] at he;rename_i hb;obtain ⟨rfl,rfl⟩:=he;simp only [CF,QN] at hb;have h2:Fr L bad S1 (S1.entry n (.cells (r.T.av (r.F x0 y).2))):=cW h1.2 (by rw [hlk]; exact hb.1) _;have h3:Tidy bad (S1.entry n (.cells (r.T.av (r.F x0 y).2))):=bW h1.2 (fun t T xs e=>by cases e);have h4:=EC (L:=L) (hN d hdL) r.Rs 0 (r.F x0 y).1 _ h3;exact ⟨((h1.1.trans h2).trans h4.1).trans (iG hdL _),eJ h4.2 d _⟩
theorem ML {P:Program} {ss:Specs} (hN:Named L bad) (h:Tidy bad S) {o:Oper} (hd:∀ d,o.dst=some d->L.contains d=true) {ps:List Prop} {S':St} (he:Nw P ss S o=some (ps,S')) :
  Fr L bad S S'/\Tidy bad S':=by
 unfold Nw at he;split at he
 ·split at he
  case h_2=>exact tN h he
  case h_3=>exact tN h he
  case h_4 =>
   split at he <;> try cases he
   unfold us at he;split at he <;> try cases he
   rename_i d T i n _;split at he <;> try cases he
   rename_i e T' xs hZ;split at he <;> try cases he
   rename_i hT;subst hT;split at he <;> try cases he
   split at he <;> try cases he
   split at he <;> try cases he
   split at he <;> try cases he
   rename_i y hy;split at he <;> simp only [pS,zn,reduceCtorEq] at he;rename_i hb;obtain ⟨rfl,rfl⟩:=he;simp only [CF,QN] at hb;exact ⟨cW h hb.1 _,bW h (fun t T xs e=>h.row _ _ _ _ hZ hb.1)⟩
  case h_5=>cases he
  rename_i t ad v ho;unfold kW at he;split at he <;> try cases he
  split at he
  ·cases he
  split at he
  ·split at he <;> try cases he
   split at he <;> simp only [pS,zn,reduceCtorEq] at he <;> obtain ⟨rfl,rfl⟩:=he;rename_i hb;simp only [CF,QN] at hb;exact ⟨cW h hb.1.1.1.1 _,bW h (fun t T xs e=>by cases e)⟩
  ·split at he;rotate_left
   ·rename_i d T i off _ _ c hlh;split at he <;> try cases he
    split at he <;> simp only [pS,zn,reduceCtorEq] at he <;> obtain ⟨rfl,rfl⟩:=he;rename_i hb;simp only [CF,QN] at hb;have h1:=dm (L:=L) (bad:=bad) (S.look [] v).owns S h;have hl:(S.freeze (S.look [] v).owns).lock d=false:=by rw [(cQ _ _).2.2]; exact hb.1.1
    exact ⟨h1.1.trans (cW h1.2 hl _),bW h1.2 (fun t T xs e=>by cases e)⟩
   ·cases he
   rename_i d T i off _ _ e' T' xs hlh;split at he <;> try cases he
   rename_i hT;subst hT;split at he <;> try cases he
   rename_i hb;split at he <;> simp only [pS,zn,reduceCtorEq] at he <;> obtain ⟨rfl,rfl⟩:=he;simp only [CF,QN] at hb;have h1:=dm (L:=L) (bad:=bad) (S.look [] v).owns S h;have hl:(S.freeze (S.look [] v).owns).lock d=false:=by rw [(cQ _ _).2.2]; exact hb.1.1.1.1
   refine ⟨h1.1.trans (cW h1.2 hl _),bW h1.2 (fun t T xs e=>?_)⟩;exact h1.2.row _ _ _ _ hlh hl
  ·cases he
 ·rename_i d hdst;have hdL:=hd d hdst;split at he
  ·unfold Iv at he;split at he <;> simp only [pS,zn,reduceCtorEq] at he <;> obtain ⟨rfl,rfl⟩:=he;exact cH hN h hdL _ _
  ·unfold mw at he;split at he <;> try cases he
   split at he <;> try cases he
   split at he <;> simp only [pS,zn,reduceCtorEq] at he <;> obtain ⟨rfl,rfl⟩:=he;exact cH hN h hdL _ _
  ·rename_i f args ts ho;unfold mr at he;split at he
   ·split at he <;> try cases he
    split at he <;> try cases he
    exact Bn hN h hdL he
   ·split at he <;> try cases he
    split at he <;> try cases he
    exact Bq hN h hdL he
   split at he <;> try cases he
   split at he <;> simp only [pS,zn,reduceCtorEq] at he <;> obtain ⟨rfl,rfl⟩:=he;rename_i q0 Rs x hev hb
   have h0:Fr L bad S (fW ss S f args.toList)/\Tidy bad (fW ss S f args.toList):=by
    unfold fW;split
    ·split
     ·exact dm _ S h
     ·exact ⟨Fr.refl _ _ _,h⟩
    ·exact ⟨Fr.refl _ _ _,h⟩
   have h1:=EC (L:=L) (hN d hdL) Rs 0 x _ h0.2;exact ⟨(h0.1.trans h1.1).trans (iG hdL _),eJ h1.2 d _⟩
  ·split at he <;> try cases he
   split at he
   case isFalse =>
    unfold fh at he;split at he <;> try cases he
    split at he <;> try cases he
    split at he <;> try cases he
    split at he <;> try cases he
    split at he <;> try cases he
    split at he <;> simp only [pS,zn,reduceCtorEq] at he <;> obtain ⟨rfl,rfl⟩:=he;exact cH hN h hdL _ _
   unfold ki at he;split at he <;> try cases he
   split at he <;> try cases he
   split at he <;> try cases he
   split at he
   ·simp only [pS,zn] at he;obtain ⟨rfl,rfl⟩:=he;exact cH hN h hdL _ _
   ·split at he <;> try cases he
    split at he <;> try cases he
    split at he <;> simp only [pS,zn,reduceCtorEq] at he <;> obtain ⟨rfl,rfl⟩:=he;rename_i hb;simp only [CF,QN] at hb
    have gen:∀ d1,S.lock d1=false->∀ e x,(∀ tm env,e≠.frame tm env)->Fr L bad S (((S.entry d1 .dead).fresh d e).set d x)/\Tidy bad (((S.entry d1 .dead).fresh d e).set d x):=by
     intro d1 hl e x hf;have h1:Fr L bad S (S.entry d1 .dead):=cW h hl .dead;have h2:Tidy bad (S.entry d1 .dead):=bW h (fun t T xs e=>by cases e);have h3:=cH (L:=L) hN h2 hdL e x hf;exact ⟨h1.trans h3.1,h3.2⟩
    exact gen _ hb.1.2 _ _ (by intro _ _ h; cases h)
   ·cases he
  ·split at he <;> try cases he
   rename_i x y t t' _ _;unfold pA at he;split at he <;> try cases he
   rename_i d1 i n qs T' ys _ _;split at he <;> try cases he
   rename_i e T xs hZ;split at he <;> try cases he
   rename_i hT;subst hT;split at he <;> simp only [pS,zn,reduceCtorEq] at he <;> obtain ⟨rfl,rfl⟩:=he;rename_i hb;simp only [CF,QN] at hb;have hl:S.lock d1=false:=hb.1.1.2;have h1:Fr L bad S (S.entry d1 (.row e T' (xs.take i++(ys.take (min ys.length n)++xs.drop (i+min ys.length n))))):=cW h hl _;have h2:Tidy bad (S.entry d1 (.row e T' (xs.take i++(ys.take (min ys.length n)++xs.drop (i+min ys.length n))))):=bW h (fun t T xs e=>h.row _ _ _ _ hZ hl);exact ⟨h1.trans (iG hdL _),eJ h2 d _⟩
  ·split at he <;> try cases he
   unfold px at he;split at he <;> try cases he
   split at he <;> try cases he
   split at he <;> try cases he
   split at he <;> try cases he
   split at he <;> try cases he
   split at he <;> simp only [pS,zn,reduceCtorEq] at he <;> obtain ⟨rfl,rfl⟩:=he;exact cH hN h hdL _ _
  ·unfold jI at he;split at he
   case h_2 =>
    unfold kY at he;split at he <;> try cases he
    split at he <;> try cases he
    split at he <;> try cases he
    split at he <;> simp only [pS,zn,reduceCtorEq] at he <;> obtain ⟨rfl,rfl⟩:=he;exact cH hN h hdL _ _
   rename_i r hr;injection he with he
   subst he;have he:=hr;unfold mv at he;split at he <;> try cases he
   split at he <;> try cases he
   simp only at he;split at he <;> try cases he
   split at he <;> simp only [pS,zn,reduceCtorEq] at he <;> obtain ⟨rfl,rfl⟩:=he
   have gen:∀ ds e x,(∀ tm env,e≠.frame tm env)->Fr L bad S (((S.freeze ds).fresh d e).set d x)/\Tidy bad (((S.freeze ds).fresh d e).set d x):=by
    intro ds e x hf;have h1:=dm (L:=L) (bad:=bad) ds S h;have h3:=cH (L:=L) hN h1.2 hdL e x hf;exact ⟨h1.1.trans h3.1,h3.2⟩
   exact gen _ _ _ (by intro _ _ h; cases h)
  ·unfold wP at he;split at he <;> try cases he
   rename_i d1 k b _ _;split at he <;> try cases he
   rename_i e T xs hZ;split at he <;> simp only [pS,zn,reduceCtorEq] at he <;> obtain ⟨rfl,rfl⟩:=he;rename_i hb;simp only [CF,QN] at hb;have hl:S.lock d1=false:=hb.1.1.2;have h1:Fr L bad S (S.entry d1 .dead):=cW h hl .dead;have h2:Tidy bad (S.entry d1 .dead):=bW h (fun t T xs e=>by cases e);have h3:=cH (L:=L) hN h2 hdL (.row e T (xs.take b.toNat)) (.own d);exact ⟨h1.trans h3.1,h3.2⟩
  ·unfold mt at he;split at he <;> try cases he
   split at he <;> try cases he
   split at he <;> try cases he
   split at he <;> simp only [pS,zn,reduceCtorEq] at he <;> obtain ⟨rfl,rfl⟩:=he;exact ⟨iG hdL _,eJ h _ _⟩
  ·unfold ob at he;split at he <;> try cases he
   split at he <;> simp only [pS,zn,reduceCtorEq] at he <;> obtain ⟨rfl,rfl⟩:=he;exact cH hN h hdL _ _
  ·unfold uq at he;split at he <;> try cases he
   rename_i m _ _;split at he <;> try cases he
   rename_i k V l _;split at he <;> simp only [pS,zn,reduceCtorEq] at he <;> obtain ⟨rfl,rfl⟩:=he;rename_i hb;simp only [CF,QN] at hb;have h2:Tidy bad (S.entry m (.frozm k V l)):=bW h (fun t T xs e=>by cases e);have h3:=cH (L:=L) hN h2 hdL (.iter k V l none) (.loc d 0);exact ⟨(cW h hb.2 _).trans h3.1,h3.2⟩
  ·split at he <;> simp only [pS,zn,reduceCtorEq] at he <;> obtain ⟨rfl,rfl⟩:=he;exact ⟨iG hdL _,eJ h _ _⟩
  ·cases he
theorem Bo {P:Program} {ss:Specs} {ops:Array Oper} (hN:Named L bad) (h:Tidy bad S) {o:Oper} (hd:∀ d,o.dst=some d->L.contains d=true) {ps:List Prop} {S':St}
  (he:Bx P ss ops o S=some (ps,S')):Fr L bad S S'/\Tidy bad S':=by
 unfold Bx at he;split at he
 ·split at he
  ·rename_i hdst;split at he <;> simp only [pS,zn,reduceCtorEq] at he <;> obtain ⟨rfl,rfl⟩:=he;exact ⟨iG (hd _ hdst) _,eJ h _ _⟩
  ·split at he
   ·rename_i x hx;injection he with he
    subst he;split at hx <;> try cases hx
    exact ML hN h hd hx
   ·split at he <;> try cases he
    rename_i hdst;split at he <;> simp only [pS,zn,reduceCtorEq] at he <;> obtain ⟨rfl,rfl⟩:=he;exact ⟨iG (hd _ hdst) _,eJ h _ _⟩
 ·split at he <;> try cases he
  rename_i hdst;split at he <;> try cases he
  split at he <;> simp only [pS,zn,reduceCtorEq] at he <;> obtain ⟨rfl,rfl⟩:=he;exact ⟨iG (hd _ hdst) _,eJ h _ _⟩
theorem wC {P:Program} {ss:Specs} {ops:Array Oper} (hN:Named L bad):∀ (os:List Oper) (S S':St) (ps:List Prop),Tidy bad S->(∀ o∈os,∀ d,o.dst=some d->L.contains d=true) ->
  run P ss ops os S=some (ps,S')->Fr L bad S S'/\Tidy bad S'
 | [],S,S',ps,h,_,he=>by
  simp only [run,pS,zn] at he;obtain ⟨_,rfl⟩:=he;exact ⟨Fr.refl _ _ _,h⟩
 | o::os,S,S',ps,h,hd,he=>by
  simp only [run] at he;split at he <;> try cases he
  rename_i ps1 S1 h1;split at he <;> simp only [pS,zn,reduceCtorEq] at he <;> obtain ⟨rfl,rfl⟩:=he;rename_i ps2 S2 h2;have k1:=Bo hN h (hd o (by simp)) h1;have k2:=wC hN os S1 S2 ps2 k1.2 (fun o' ho'=>hd o' (by simp [ho'])) h2;exact ⟨k1.1.trans k2.1,k2.2⟩
theorem gT {x:AV} (h:x.noGd=true):x.opn []=x:=by cases x <;> first | (cases h; done) | rfl
theorem fS (h:Tidy bad S):Fr L bad S S.clean/\Tidy bad S.clean :=
 ⟨⟨rfl,rfl,fun _ _ hst=>gT hst.2,fun _ _ _=>rfl,fun _ _ env h=>⟨env,h,fun _ _=>rfl⟩⟩,⟨h.lock,h.row,h.frame⟩⟩
end
inductive BF where
 | dat (T:Ty)
 | own (e:TypeId) (T:Ty)
 | mpc (d:Nat)
 | lcc (d:Nat)
def BF.den:BF->Type
 | .dat T=>T.den
 | .own _ T=>List T.den
 | .mpc _=>Unit
 | .lcc _=>Unit
def BF.size:BF->Nat
 | .dat T=>T.size
 | .own _ _=>1
 | .mpc _=>1
 | .lcc _=>1
def BF.maps:BF->List Nat
 | .mpc d=>[d]
 | .lcc d=>[d]
 | _=>[]
def mN:List BF->Type
 | []=>Unit
 | [f]=>f.den
 | f::g::fs=>f.den×mN (g::fs)
inductive Cr where
 | dat (s:Nat) (T:Ty)
 | own (s:Nat) (e:TypeId) (T:Ty)
 | box (d:Nat) (T:Ty)
 | boxS (d:Nat) (fs:List BF)
 | same (s s':Nat)
 | part (s s':Nat) (T:Ty)
 | map (d:Nat) (k:IntKind) (V:Ty)
 | iter (d:Nat) (k:IntKind) (V:Ty)
 | mapS (d:Nat) (k:IntKind) (V:Ty) (e:TypeId) (T:Ty)
def Cr.den:Cr->Type
 | .dat _ T=>T.den
 | .own _ _ T=>List T.den
 | .box _ T=>T.den
 | .boxS _ fs=>mN fs
 | .same _ _=>Unit
 | .part _ _ _=>Nat×Nat
 | .map _ _ V=>List (Int×V.den)
 | .iter _ _ V=>List (Int×V.den)
 | .mapS _ _ V _ T=>Int×List (Int×Option V.den)×List T.den
def dp:List Cr->Type
 | []=>Unit
 | [c]=>c.den
 | c::d::cs=>c.den×dp (d::cs)
def AV.rowAt (S:St) (e:TypeId) (T:Ty):AV->Option (List T.den×Option Nat)
 | .nils=>some ([],none)
 | .own d=>match S.lh d with
  | some (.row e' T' xs)=>if h:T'=T then (if Nat.beq e' e&&!S.lock d then some (h ▸ xs,some d) else none) else none
  | _=>none
 | _=>none
def Ol:Nat:=1000000000000000000000000000000
def IF:Nat->Nat->Nat->Nat
 | 0,d,j=>d+1000000 * j+Ol
 | k+1,d,j=>bif Nat.beq (d % 1000000) 900000 then 1000000 * IF k (d / 1000000) j+900000 else d+1000000 * j+Ol
def fB (d j:Nat):Nat:=IF 8 d j
def KC:Nat->Nat->Bool
 | 0,_=>false
 | k+1,n=>bif Nat.beq (n % 1000000) 900000 then KC k (n / 1000000) else Nat.ble Ol n
def Bv (n:Nat):Bool:=KC 9 n
theorem zE:∀ (k n:Nat),KC k n=true->KC (k+1) n=true
 | 0,n,h=>by cases h
 | k+1,n,h=>by
  rw [KC] at h |-;cases hb:Nat.beq (n % 1000000) 900000
  ·rw [hb] at h; exact h
  ·rw [hb] at h; exact zE k _ h
def AV.rowFar (S:St) (e:TypeId) (T:Ty) (nm:Nat) (a:AV):Option (List T.den×Option Nat):=if Bv nm=true then a.rowAt S e T else none
theorem lG {S:St} {e:TypeId} {T:Ty} {nm:Nat} {a:AV} {y:List T.den×Option Nat} (h:a.rowFar S e T nm=some y):a.rowAt S e T=some y:=by
 unfold AV.rowFar at h;split at h
 ·exact h
 ·cases h
theorem ve {S:St} {e:TypeId} {T:Ty} {nm:Nat} {a:AV} {y:List T.den×Option Nat} (h:a.rowFar S e T nm=some y):Bv nm=true:=by
 unfold AV.rowFar at h;split at h
 ·assumption
 ·cases h
def BF.get (S:St) (nm:Nat) (f:BF) (a:AV):Option (f.den×List (Nat×Option Nat)) :=
 match f with
 | .dat T=>(a.toTy false S.lh T).map fun x=>(x,[])
 | .own e T=>(a.rowFar S e T nm).map fun x=>(x.1,[(nm,x.2)])
 | .mpc d=>match a with
  | .mp d'=>if Nat.beq d' d then some ((),[]) else none
  | _=>none
 | .lcc d=>match a with
  | .loc d' off=>if Nat.beq d' d&&Nat.beq off 0 then some ((),[]) else none
  | _=>none
def BF.av (nm:Nat):(f:BF)->f.den->AV
 | .dat T,x=>T.av x
 | .own _ _,_=>.own nm
 | .mpc d,_=>.mp d
 | .lcc d,_=>.loc d 0
def BF.row (nm:Nat):(f:BF)->f.den->Nat->Option LE
 | .dat _,_,_=>none
 | .own e T,xs,n=>if Nat.beq n nm then some (.row e T xs) else none
 | .mpc _,_,_=>none
 | .lcc _,_,_=>none
def qT (S:St) (d:Nat):Nat->(fs:List BF)->AV->Option (mN fs×List (Nat×Option Nat))
 | _,[],_=>none
 | j,[f],a=>f.get S (fB d j) a
 | j,f::g::fs,a=>match f.get S (fB d j) (a.take f.size),qT S d (j+1) (g::fs) (a.drop f.size) with
  | some (x,r1),some (y,r2)=>some ((x,y),r1++r2)
  | _,_=>none
def Qo (d:Nat):Nat->(fs:List BF)->mN fs->AV
 | _,[],_=>.any
 | j,[f],x=>f.av (fB d j) x
 | j,f::g::fs,x=>(f.av (fB d j) x.1).app (Qo d (j+1) (g::fs) x.2)
def vf (d:Nat):Nat->(fs:List BF)->mN fs->Nat->Option LE
 | _,[],_,_=>none
 | j,[f],x,n=>f.row (fB d j) x n
 | j,f::g::fs,x,n=>match f.row (fB d j) x.1 n with
  | some e=>some e
  | none=>vf d (j+1) (g::fs) x.2 n
def Cr.get (S:St):(c:Cr)->Option (c.den×List (Nat×Option Nat))
 | .dat s T=>((S.env s).toTy false S.lh T).map fun x=>(x,[])
 | .own s e T=>((S.env s).rowAt S e T).map fun x=>(x.1,[(s,x.2)])
 | .box d T=>match S.lh d with
  | some (.cells c)=>(c.toTy false S.lh T).map fun x=>(x,[])
  | _=>none
 | .boxS d fs=>match S.lh d with
  | some (.cells c)=>qT S d 0 fs c
  | _=>none
 | .same s s'=>match S.env s,S.env s' with
  | .own d,.own d'=>if Nat.beq d d' then some ((),[]) else none
  | _,_=>none
 | .part s s' T=>match S.env s,S.env s' with
  | .osl d T' i n,.own d'=>if T'=T then (if Nat.beq d d' then some ((i,n),[]) else none) else none
  | _,_=>none
 | .map d k V=>match S.lh d with
  | some (.mapp k' V' m)=>if h:k'=k/\V'=V then some ((h.2 ▸ m:List (Int×V.den)),[]) else none
  | _=>none
 | .iter d k V=>match S.lh d with
  | some (.iter k' V' m _)=>if h:k'=k/\V'=V then some ((h.2 ▸ m:List (Int×V.den)),[]) else none
  | _=>none
 | .mapS d k V e T=>match S.lh d with
  | some (.mapo k' V' m x c)=>if h:k'=k/\V'=V then (c.rowFar S e T (fB d 0)).map fun r=>((x,(h.2 ▸ m:List (Int×Option V.den)),r.1),[(fB d 0,r.2)]) else none
  | _=>none
def jn (S:St):(cs:List Cr)->Option (dp cs×List (Nat×Option Nat))
 | []=>some ((),[])
 | [c]=>c.get S
 | c::d::cs=>match c.get S,jn S (d::cs) with
  | some (x,r1),some (y,r2)=>some ((x,y),r1++r2)
  | _,_=>none
def Cr.envOf (c:Cr) (x:c.den) (s:Nat):Option AV :=
 match c,x with
 | .dat s' T,x=>if Nat.beq s s' then some (T.av x) else none
 | .own s' _ _,_=>if Nat.beq s s' then some (.own s') else none
 | .same s1 s2,_=>if Nat.beq s s1 then some (.own s2) else none
 | .part s1 s2 T,x=>if Nat.beq s s1 then some (.osl s2 T x.1 x.2) else none
 | _,_=>none
def Cr.lhOf (c:Cr) (x:c.den) (d:Nat):Option LE :=
 match c,x with
 | .dat _ _,_=>none
 | .same _ _,_=>none
 | .part _ _ _,_=>none
 | .own s e T,xs=>if Nat.beq d s then some (.row e T xs) else none
 | .box d' T,x=>if Nat.beq d d' then some (.cells (T.av x)) else none
 | .map d' k V,m=>if Nat.beq d d' then some (.mapp k V m) else none
 | .iter d' k V,m=>if Nat.beq d d' then some (.iter k V m none) else none
 | .mapS d' k V e T,y=>if Nat.beq d d' then some (.mapo k V y.2.1 y.1 (.own (fB d' 0))) else if Nat.beq d (fB d' 0) then some (.row e T y.2.2) else none
 | .boxS d' fs,x=>if Nat.beq d d' then some (.cells (Qo d' 0 fs x)) else vf d' 0 fs x d
def envOf:(cs:List Cr)->dp cs->Nat->Option AV
 | [],_,_=>none
 | [c],x,s=>c.envOf x s
 | c::d::cs,x,s=>match c.envOf x.1 s with
  | some a=>some a
  | none=>envOf (d::cs) x.2 s
def lhOf:(cs:List Cr)->dp cs->Nat->Option LE
 | [],_,_=>none
 | [c],x,s=>c.lhOf x s
 | c::d::cs,x,s=>match c.lhOf x.1 s with
  | some a=>some a
  | none=>lhOf (d::cs) x.2 s
def Cr.boxName:Cr->List Nat
 | .box d _=>[d]
 | .boxS d _=>[d]
 | .map d _ _=>[d]
 | .iter d _ _=>[d]
 | .mapS d _ _ _ _=>[d]
 | _=>[]
def Cr.twin:Cr->Option Nat
 | .same _ s'=>some s'
 | .part _ s' _=>some s'
 | _=>none
def Cr.maps:Cr->List Nat
 | .boxS _ fs=>fs.flatMap BF.maps
 | _=>[]
def Lj (cs:List Cr):Bool:=cs.all fun c=>match c.twin with
 | some s'=>cs.any fun c'=>match c' with
  | .own s'' _ _=>Nat.beq s'' s'
  | _=>false
 | none=>true
def Gn (cs:List Cr):Bool:=Lj cs
def bH (L X:List Nat) (n:Nat):Bool:=L.contains (n % 1000000)||X.contains n||Bv n
def bn (ren:List (Nat×Option Nat)):List Nat:=ren.flatMap fun x=>x.1::x.2.toList
def AK (ren:List (Nat×Option Nat)):List Nat:=ren.flatMap fun x=>x.2.toList
def lV:List Nat->Bool
 | []=>true
 | x::xs=>!xs.contains x&&lV xs
def be (S:St) (L X:List Nat) (cs:List Cr) (x:dp cs):St :=
 { env:=fun s=>match envOf cs x s with
   | some a=>a
   | none=>bif L.contains s then .any else ((S.env s).scrub (bH L X)).opn []
   lh:=fun d=>match lhOf cs x d with
    | some e=>some e
    | none=>bif bH L X d then none else (S.lh d).map (LE.scrub (bH L X))
   n:=S.n
   lock:=fun d=>!bH L X d&&!(cs.flatMap Cr.boxName).contains d }
def Hq (S:St) (L X:List Nat) (cs:List Cr) (ren:List (Nat×Option Nat)):Bool :=
 (bn ren).all (bH L X)&&lV (AK ren)&&lV (ren.map (·.1)) &&
 (cs.flatMap Cr.boxName).all (fun d=>!bH L X d&&!S.lock d)&&(cs.flatMap Cr.maps).all (fun d=>!bH L X d)
section
variable {M:Nat->Prop} {p0:PH} {w0:World} {S:St} {tm:Array Value} {w:World} {p:PH} {β:Nat->Value}
def Eu (β:Nat->Value):Option Nat->Value
 | some d=>β d
 | none=>.slice none 0 0
def B5 (β β':Nat->Value) (ren:List (Nat×Option Nat)):Prop:=∀ x∈ren,β' x.1=Eu β x.2
theorem i6 (hS:SatB M p0 w0 S tm w p β) {e:TypeId} {T:Ty} {a:AV} {xs:List T.den} {src:Option Nat} (h:a.rowAt S e T=some (xs,src)) :
  (∀ v,a.one p β v->v=Eu β src)/\(∃ l,w.ownsRow 0 e T.size (Eu β src) xs.length l/\aN (T.holds p) xs l/\xs.length * T.bytes<=aK) /\
   (∀ d,src=some d->S.lh d=some (.row e T xs)/\S.lock d=false):=by
 cases a <;> simp only [AV.rowAt,reduceCtorEq] at h
 ·simp only [pS,zn] at h;obtain ⟨rfl,rfl⟩:=h;exact ⟨fun v hv=>hv,⟨[],SG w 0 e T.size,rfl,by simp⟩,fun d hd=>by cases hd⟩
 ·rename_i d;split at h <;> try cases h
  rename_i e' T' ys hd;split at h <;> try cases h
  rename_i hT;subst hT;split at h <;> simp only [pS,zn,reduceCtorEq] at h <;> obtain ⟨rfl,rfl⟩:=h;rename_i hb;simp only [CF,QN] at hb;have:=CC hb.1;subst this;exact ⟨fun v hv=>hv,hS.lhs d _ hd,fun d' hd'=>by injection hd' with hd'; subst hd'; exact ⟨hd,hb.2⟩⟩
theorem OC {T:Ty} {x:T.den} {a:AV} {v:Value} {β':Nat->Value} (hS:SatB M p0 w0 S tm w p β) (h:a.toTy false S.lh T=some x) (ha:a.val p β tm v):(T.av x).val p β' tm v:=by
 have h1:=cR hS (rows:=false) h ha;simp only [Qz,QW] at h1;exact AV.val_of_val1 (dI (tm:=tm) h1)
theorem It (hS:SatB M p0 w0 S tm w p β) {β':Nat->Value} {c:Cr} {x:c.den} {ren:List (Nat×Option Nat)} (h:c.get S=some (x,ren)) (hf:B5 β β' ren) (hsm:∀ s' d,c.twin=some s'->S.env s'=.own d->β' s'=β d) {s:Nat} {a:AV} (he:c.envOf x s=some a) :
  a.val p β' tm (tm.getD s undef):=by
 cases c with
 | dat s' T =>
  obtain ⟨y,hy,h0⟩:=Dm.1 h;injection h0 with h0 h00
  subst h0;subst h00;simp only [Cr.envOf] at he;split at he <;> simp only [pS,reduceCtorEq] at he;rename_i hs;have:=CC hs;subst this;subst he;exact OC hS hy (hS.env s)
 | own s' e T =>
  obtain ⟨y,hy,h0⟩:=Dm.1 h;injection h0 with h0 h00
  subst h0;subst h00;simp only [Cr.envOf] at he;split at he <;> simp only [pS,reduceCtorEq] at he;rename_i hs;have:=CC hs;subst this;subst he;have h1:=(i6 hS (xs:=y.1) (src:=y.2) hy).1;have h2:=hf (s,y.2) (by simp);have h3:=hS.env s;show tm.getD s undef=β' s;rw [h2];apply h1
  have hl:∀ (a:AV) (v:Value),a.rowAt S e T=some y->a.val p β tm v->a.one p β v:=by
   intro a v ha hv;cases a <;> first | exact hv | (simp [AV.rowAt] at ha; done)
  exact hl _ _ hy h3
 | box d T=>simp [Cr.envOf] at he
 | boxS d fs=>simp [Cr.envOf] at he
 | map d k V=>simp [Cr.envOf] at he
 | iter d k V=>simp [Cr.envOf] at he
 | mapS d k V e T=>simp [Cr.envOf] at he
 | same s1 s2 =>
  simp only [Cr.envOf] at he;split at he <;> simp only [pS,reduceCtorEq] at he;rename_i hs;have:=CC hs;subst this;subst he;simp only [Cr.get] at h;split at h <;> try cases h
  rename_i d d' h1 h2;split at h <;> try cases h
  rename_i hd;have:=CC hd;subst this;have h3:=hS.env s;rw [h1] at h3;show tm.getD s undef=β' s2;rw [hsm _ _ rfl h2];exact h3
 | part s1 s2 T =>
  simp only [Cr.envOf] at he;split at he <;> simp only [pS,reduceCtorEq] at he;rename_i hs;have:=CC hs;subst this;subst he;simp only [Cr.get] at h;split at h <;> try cases h
  rename_i d T' i n d' h1 h2;split at h <;> try cases h
  rename_i hT;subst hT;split at h <;> simp only [pS,reduceCtorEq] at h;rename_i hd;have:=CC hd;subst this;injection h with h h0
  subst h;subst h0;have h3:=hS.env s;rw [h1] at h3;have h4:=hsm _ _ rfl h2;have h3:(∃ b m c c',β d=.slice (some ⟨b,0,none⟩) m c/\tm.getD s undef=.slice (some ⟨b,i * T'.size,none⟩) n c')\/(n=0/\∃ A c,tm.getD s undef=.slice A 0 c):=h3;show (∃ b m c c',β' s2=.slice (some ⟨b,0,none⟩) m c/\tm.getD s undef=.slice (some ⟨b,i * T'.size,none⟩) n c')\/(n=0/\∃ A c,tm.getD s undef=.slice A 0 c);rw [h4];exact h3
def Fj (S:St) (β β':Nat->Value) (ren:List (Nat×Option Nat)) (boxes:List Nat) (d:Nat):Prop :=
 ∀ b,b8 (β' d)=some b->∃ d0 e0,S.lh d0=some e0/\e0.live=true/\b8 (β d0)=some b/\((d0=d/\d∈boxes)\/(d,some d0)∈ren)
theorem M2:∀ (k:Nat) (a:AV),a.len<=k->0<k->a.drop k=.any:=by
 intro k
 induction k with
 | zero=>intro a _ h; omega
 | succ k ih =>
  intro a hle _;cases a <;> simp only [AV.drop];rename_i x y;simp only [AV.len] at hle;rcases Nat.eq_zero_or_pos k with hk | hk
  ·subst hk;cases y <;> simp only [AV.len] at hle <;> omega
  ·exact ih y (by omega) hk
theorem BF.size_pos (f:BF):0<f.size:=by
 cases f with
 | dat T=>exact Ty.size_pos T
 | own e T=>simp [BF.size]
 | mpc d=>simp [BF.size]
 | lcc d=>simp [BF.size]
theorem BF.get_any (S:St) (nm:Nat) (f:BF):f.get S nm .any=none:=by
 cases f with
 | dat T=>simp only [BF.get,lC]; rfl
 | own e T=>simp only [BF.get,AV.rowFar,AV.rowAt]; split <;> rfl
 | mpc d=>rfl
 | lcc d=>rfl
theorem MI (S:St) (d:Nat):∀ (fs:List BF) (j:Nat),qT S d j fs .any=none
 | [],_=>rfl
 | [f],j=>BF.get_any S _ f
 | f::g::fs,j=>by simp only [qT,CD,BF.get_any]
theorem BF.get_cells (hS:SatB M p0 w0 S tm w p β) {β':Nat->Value} {f:BF} {nm:Nat} {a:AV} {x:f.den} {ren:List (Nat×Option Nat)} (h:f.get S nm a=some (x,ren)) (hf:B5 β β' ren) (hm:∀ d∈f.maps,β' d=β d) {cs:List Value} (hc:a.cells p β cs) :
  (f.av nm x).cells p β' cs:=by
 cases f with
 | dat T =>
  obtain ⟨y,hy,h0⟩:=Dm.1 h;injection h0 with h0 h00
  subst h0;subst h00;have h5:=bc hS (rows:=false) T _ y _ hy hc;simp only [Qz,QW] at h5;exact Ty.av_cells T y _ h5
 | own e T =>
  obtain ⟨y,hy,h0⟩:=Dm.1 h;injection h0 with h0 h00
  subst h0;subst h00;have hy:=lG hy;obtain ⟨h1,_,_⟩:=i6 hS (xs:=y.1) (src:=y.2) hy;have h4:=hf (nm,y.2) (by simp);simp only at h4
  have hl:∃ v,cs=[v]/\a.one p β v:=by
   cases a <;> (first | (simp [AV.rowAt] at hy; done) | exact (AV.cells_leaf _ (by intro x y e; cases e) _).1 hc)
  obtain ⟨v,rfl,hone⟩:=hl;exact AV.one_cells (p:=p) (a:=.own nm) (by show v=β' nm; rw [h4]; exact h1 v hone)
 | mpc d =>
  simp only [BF.get] at h;split at h <;> try cases h
  rename_i d';split at h <;> simp only [pS,reduceCtorEq] at h;rename_i hd;have:=CC hd;subst this;obtain ⟨v,rfl,hone⟩:∃ v,cs=[v]/\(AV.mp d').one p β v:=(AV.cells_leaf _ (by intro x y e; cases e) _).1 hc;exact AV.one_cells (p:=p) (a:=.mp d') (by show v=β' d'; rw [hm d' (by simp [BF.maps])]; exact hone)
 | lcc d =>
  simp only [BF.get] at h;split at h <;> try cases h
  rename_i d' off;split at h <;> simp only [pS,reduceCtorEq] at h;rename_i hd;simp only [CF] at hd;have h1:=CC hd.1;have h2:=CC hd.2;subst h1 h2;obtain ⟨v,rfl,hone⟩:∃ v,cs=[v]/\(AV.loc d' 0).one p β v:=(AV.cells_leaf _ (by intro x y e; cases e) _).1 hc;obtain ⟨b,e1,e2⟩:=hone;exact AV.one_cells (p:=p) (a:=.loc d' 0) ⟨b,by rw [hm d' (by simp [BF.maps])]; exact e1,e2⟩
theorem wA (hS:SatB M p0 w0 S tm w p β) {β':Nat->Value} {d:Nat}:∀ (fs:List BF) (j:Nat) (a:AV) (x:mN fs) (ren:List (Nat×Option Nat)) (cs:List Value),qT S d j fs a=some (x,ren)->B5 β β' ren->(∀ d∈fs.flatMap BF.maps,β' d=β d)->a.cells p β cs ->
  (Qo d j fs x).cells p β' cs
 | [],_,_,_,_,_,h,_,_,_=>by cases h
 | [f],j,a,x,ren,cs,h,hf,hm,hc=>BF.get_cells hS h hf (fun d hd=>hm d (by simpa using hd)) hc
 | f::g::fs,j,a,x,ren,cs,h,hf,hm,hc=>by
  unfold qT at h;split at h <;> simp only [pS,reduceCtorEq] at h;rename_i y r1 z r2 h1 h2;injection h with ha hb
  subst ha;subst hb;have hpos:=BF.size_pos f;have hl:=AV.len_cells a cs hc
  have key:f.size<cs.length:=by
   rcases QO f.size cs.length with hlt | hge
   ·exact hlt
   ·exfalso;rw [M2 f.size a (by omega) hpos,MI] at h2;cases h2
  have k1:=BF.get_cells hS h1 (fun z hz=>hf z (L3 _ hz)) (fun d hd=>hm d (by rw [Q7]; exact L3 _ hd)) (AV.cells_take _ a cs hc hpos (by omega));have k2:=wA hS (g::fs) (j+1) _ z r2 _ h2 (fun z hz=>hf z (Qw _ hz)) (fun d hd=>hm d (by rw [Q7]; exact Qw _ hd)) (AV.cells_drop _ a cs hc key);have:=AV.cells_app _ _ _ _ k1 k2
  rwa [Ru] at this
theorem BF.get_row (hS:SatB M p0 w0 S tm w p β) {β':Nat->Value} {f:BF} {nm:Nat} {a:AV} {x:f.den} {ren ren0:List (Nat×Option Nat)} {boxes:List Nat} (h:f.get S nm a=some (x,ren)) (hf:B5 β β' ren) (hr:∀ z∈ren,z∈ren0) {n:Nat} {e:LE}
  (he:f.row nm x n=some e):e.sat p β' w n/\Fj S β β' ren0 boxes n/\n∈ren.map (·.1):=by
 cases f with
 | dat T=>cases he
 | mpc d=>cases he
 | lcc d=>cases he
 | own t T =>
  obtain ⟨y,hy,h0⟩:=Dm.1 h;injection h0 with h0 h00
  subst h0;subst h00;have hy:=lG hy;obtain ⟨_,h2,h3⟩:=i6 hS (xs:=y.1) (src:=y.2) hy;have h4:=hf (nm,y.2) (by simp);simp only at h4;simp only [BF.row] at he;split at he <;> simp only [pS,reduceCtorEq] at he;rename_i hs;have:=CC hs;subst this;subst he;refine ⟨by simpa only [LE.sat,h4] using h2,fun b hb=>?_,by simp⟩;rw [h4] at hb;cases hsrc:y.2 with
  | none=>rw [hsrc] at hb; cases hb
  | some d0 =>
   rw [hsrc] at hb;exact ⟨d0,_,(h3 d0 hsrc).1,rfl,hb,.inr (hr _ (by rw [<- hsrc]; simp))⟩
theorem Ew (hS:SatB M p0 w0 S tm w p β) {β':Nat->Value} {d:Nat} {ren0:List (Nat×Option Nat)} {boxes:List Nat}:∀ (fs:List BF) (j:Nat) (a:AV) (x:mN fs) (ren:List (Nat×Option Nat)),qT S d j fs a=some (x,ren)->B5 β β' ren->(∀ z∈ren,z∈ren0) ->
  ∀ {n:Nat} {e:LE},vf d j fs x n=some e->e.sat p β' w n/\Fj S β β' ren0 boxes n/\n∈ren.map (·.1)
 | [],_,_,_,_,h,_,_,_,_,_=>by cases h
 | [f],j,a,x,ren,h,hf,hr,n,e,he=>BF.get_row hS h hf hr he
 | f::g::fs,j,a,x,ren,h,hf,hr,n,e,he=>by
  unfold qT at h;split at h <;> simp only [pS,reduceCtorEq] at h;rename_i y r1 z r2 h1 h2;injection h with ha hb
  subst ha;subst hb;simp only [vf] at he;split at he
  ·rename_i e' he';injection he with he
   subst he;obtain ⟨k1,k2,k3⟩:=BF.get_row (boxes:=boxes) hS h1 (fun z hz=>hf z (L3 _ hz)) (fun z hz=>hr z (L3 _ hz)) he';exact ⟨k1,k2,by rw [Rg]; exact L3 _ k3⟩
  ·obtain ⟨k1,k2,k3⟩:=Ew (boxes:=boxes) hS (g::fs) (j+1) _ z r2 h2 (fun z hz=>hf z (Qw _ hz)) (fun z hz=>hr z (Qw _ hz)) he;exact ⟨k1,k2,by rw [Rg]; exact Qw _ k3⟩
theorem xe {S:St} {d:Nat} {fs:List BF} {x:mN fs} {ren:List (Nat×Option Nat)} (h:(Cr.boxS d fs).get S=some (x,ren)):∃ c,S.lh d=some (.cells c)/\qT S d 0 fs c=some (x,ren):=by
 have h':(match S.lh d with
  | some (.cells c)=>qT S d 0 fs c
  | _=>none)=some (x,ren):=h
 split at h'
 ·rename_i c hc;exact ⟨c,hc,h'⟩
 ·cases h'
theorem MH (hS:SatB M p0 w0 S tm w p β) {β':Nat->Value} {c:Cr} {x:c.den} {ren:List (Nat×Option Nat)} (h:c.get S=some (x,ren)) (hf:B5 β β' ren) (hbox:∀ d∈c.boxName,β' d=β d) (hmp:∀ d∈c.maps,β' d=β d)
  {d:Nat} {e:LE} (he:c.lhOf x d=some e):e.sat p β' w d/\Fj S β β' ren c.boxName d/\(∀ t T xs,e=.row t T xs->d∈ren.map (·.1)):=by
 have own_of:∀ {nm:Nat} {src:Option Nat} {boxes:List Nat} {e:TypeId} {T:Ty} {xs:List T.den},β' nm=Eu β src->(nm,src)∈ren->(∀ d,src=some d->S.lh d=some (.row e T xs)/\S.lock d=false)->Fj S β β' ren boxes nm:=by
  intro nm src boxes e T xs h1 h2 h3 b hb;rw [h1] at hb;cases src with
  | none=>cases hb
  | some d0=>exact ⟨d0,_,(h3 d0 rfl).1,rfl,hb,.inr h2⟩
 cases c with
 | dat s' T=>simp [Cr.lhOf] at he
 | same _ _=>simp [Cr.lhOf] at he
 | part _ _ _=>simp [Cr.lhOf] at he
 | own s' t T =>
  obtain ⟨y,hy,h0⟩:=Dm.1 h;injection h0 with h0 h00
  subst h0;subst h00;simp only [Cr.lhOf] at he;split at he <;> simp only [pS,reduceCtorEq] at he;rename_i hs;have:=CC hs;subst this;subst he;obtain ⟨_,h2,h3⟩:=i6 hS (xs:=y.1) (src:=y.2) hy;have h4:=hf (d,y.2) (by simp);simp only at h4;refine ⟨by simpa only [LE.sat,h4] using h2,own_of h4 (by simp) h3,fun _ _ _ _=>by simp⟩
 | box d' T =>
  unfold Cr.get at h;simp only at h;split at h
  case h_2=>cases h
  rename_i c' hc;obtain ⟨y,hy,h0⟩:=Dm.1 h;injection h0 with h0 h00
  subst h0;subst h00;simp only [Cr.lhOf] at he;split at he <;> simp only [pS,reduceCtorEq] at he;rename_i hs;have:=CC hs;subst this;subst he;have hb:=hbox d (by simp [Cr.boxName]);obtain ⟨b,cs,ty,e1,e2,e3⟩:=hS.lhs d _ hc;have h5:=bc hS (rows:=false) T _ y _ hy e3;simp only [Qz,QW] at h5;refine ⟨⟨b,cs,ty,hb.trans e1,e2,Ty.av_cells T y _ h5⟩,fun b' hb'=>⟨d,_,hc,rfl,by rw [<- hb]; exact hb',.inl ⟨rfl,by simp [Cr.boxName]⟩⟩,fun _ _ _ h=>by cases h⟩
 | map d' k V =>
  unfold Cr.get at h;simp only at h;split at h <;> try cases h
  rename_i k' V' m hc;split at h <;> try cases h
  rename_i hT;obtain ⟨rfl,rfl⟩:=hT;simp only [Cr.lhOf] at he;split at he <;> simp only [pS,reduceCtorEq] at he;rename_i hs;have:=CC hs;subst this;subst he;have hb:=hbox d (by simp [Cr.boxName]);obtain ⟨r,es,clock,e1,e2⟩:=hS.lhs d _ hc;refine ⟨⟨r,es,clock,hb.trans e1,e2⟩,fun b' hb'=>⟨d,_,hc,rfl,by rw [<- hb]; exact hb',.inl ⟨rfl,by simp [Cr.boxName]⟩⟩,fun _ _ _ h=>by cases h⟩
 | iter d' k V =>
  unfold Cr.get at h;simp only at h;split at h <;> try cases h
  rename_i k' V' m cur hc;split at h <;> try cases h
  rename_i hT;obtain ⟨rfl,rfl⟩:=hT;simp only [Cr.lhOf] at he;split at he <;> simp only [pS,reduceCtorEq] at he;rename_i hs;have:=CC hs;subst this;subst he;have hb:=hbox d (by simp [Cr.boxName]);obtain ⟨r,bm,since,seen,c0,es,clock,e1,e2,e3,e4,e5,e6,e7,e8,_⟩:=hS.lhs d _ hc;refine ⟨⟨r,bm,since,seen,c0,es,clock,hb.trans e1,e2,e3,e4,e5,e6,e7,e8,fun x hx=>by cases hx⟩,fun b' hb'=>⟨d,_,hc,rfl,by rw [<- hb]; exact hb',.inl ⟨rfl,by simp [Cr.boxName]⟩⟩,fun _ _ _ h=>by cases h⟩
 | mapS d' k V t T =>
  unfold Cr.get at h;simp only at h;split at h <;> try cases h
  rename_i k' V' m x0 c hc;split at h <;> try cases h
  rename_i hT;obtain ⟨rfl,rfl⟩:=hT;obtain ⟨y,hy,h0⟩:=Dm.1 h;injection h0 with h0 h00
  subst h0;subst h00;have hy:=lG hy;obtain ⟨h1,h2,h3⟩:=i6 hS (xs:=y.1) (src:=y.2) hy;have h4:=hf (fB d' 0,y.2) (by simp);simp only at h4;simp only [Cr.lhOf] at he;split at he
  ·rename_i hs;have:=CC hs;subst this;injection he with he
   subst he;have hb:=hbox d (by simp [Cr.boxName]);obtain ⟨r,es,clock,e1,e2,e3,e4,e5⟩:=hS.lhs d _ hc;refine ⟨⟨r,es,clock,hb.trans e1,e2,e3,e4,ci (fun o v hv=>?_) _ _ e5⟩,fun b' hb'=>⟨d,_,hc,rfl,by rw [<- hb]; exact hb',.inl ⟨rfl,by simp [Cr.boxName]⟩⟩,fun _ _ _ h=>by cases h⟩;cases o with
   | some z=>exact hv
   | none =>
    show v=β' (fB d 0);rw [h4];exact h1 v hv
  ·split at he <;> simp only [pS,reduceCtorEq] at he;rename_i hs;have:=CC hs;subst this;subst he;exact ⟨by simpa only [LE.sat,h4] using h2,own_of h4 (by simp) h3,fun _ _ _ _=>by simp⟩
 | boxS d' fs =>
  have hx:=xe h;obtain ⟨c',hc,h⟩:=hx;have hb:=hbox d' (by simp [Cr.boxName]);simp only [Cr.lhOf] at he;split at he
  ·simp only [pS] at he;rename_i hs;have:=CC hs;subst this;subst he;obtain ⟨b,cs,ty,e1,e2,e3⟩:=hS.lhs d _ hc;exact ⟨⟨b,cs,ty,hb.trans e1,e2,wA hS fs 0 c' x ren _ h hf hmp e3⟩,fun b' hb'=>⟨d,_,hc,rfl,by rw [<- hb]; exact hb',.inl ⟨rfl,by simp [Cr.boxName]⟩⟩,fun _ _ _ h=>by cases h⟩
  ·obtain ⟨k1,k2,k3⟩:=Ew hS fs 0 c' x ren h hf (fun _ h=>h) he;exact ⟨k1,k2,fun _ _ _ _=>k3⟩
theorem Ev (hS:SatB M p0 w0 S tm w p β) {β':Nat->Value}:∀ (cs:List Cr) (x:dp cs) (ren:List (Nat×Option Nat)),jn S cs=some (x,ren)->B5 β β' ren->(∀ c s' d,c∈cs->c.twin=some s'->S.env s'=.own d->β' s'=β d)->∀ {s:Nat} {a:AV},envOf cs x s=some a ->
  a.val p β' tm (tm.getD s undef)
 | [],_,_,_,_,_,_,_,he=>by cases he
 | [c],x,ren,h,hf,hsm,_,_,he=>It hS h hf (fun s' d e=>hsm _ s' d (by simp) e) he
 | c::d::cs,x,ren,h,hf,hsm,s,a,he=>by
  unfold jn at h;split at h <;> try cases h
  rename_i x1 r1 y r2 h1 h2;simp only [envOf] at he;split at he
  ·rename_i a' ha;injection he with he
   subst he;exact It hS h1 (fun z hz=>hf z (L3 _ hz)) (fun s' d e=>hsm _ s' d (by simp) e) ha
  ·exact Ev hS (d::cs) y r2 h2 (fun z hz=>hf z (Qw _ hz)) (fun c s' d hm=>hsm c s' d (QK _ hm)) he
theorem Is (hS:SatB M p0 w0 S tm w p β) {β':Nat->Value}:∀ (cs:List Cr) (x:dp cs) (ren:List (Nat×Option Nat)),jn S cs=some (x,ren)->B5 β β' ren->(∀ d∈cs.flatMap Cr.boxName,β' d=β d)->(∀ d∈cs.flatMap Cr.maps,β' d=β d) ->
  ∀ {d:Nat} {e:LE},lhOf cs x d=some e->e.sat p β' w d/\Fj S β β' ren (cs.flatMap Cr.boxName) d/\(∀ t T xs,e=.row t T xs->d∈ren.map (·.1))
 | [],_,_,_,_,_,_,_,_,he=>by cases he
 | [c],x,ren,h,hf,hb,hmp,d,e,he=>by
  obtain ⟨h1,h2,h3⟩:=MH hS h hf (fun d hd=>hb d (by simpa using hd)) (fun d hd=>hmp d (by simpa using hd)) he;refine ⟨h1,fun b hb'=>?_,h3⟩;obtain ⟨d0,e0,k1,k2,k3,k4⟩:=h2 b hb';exact ⟨d0,e0,k1,k2,k3,k4.imp (fun k=>⟨k.1,by simpa using k.2⟩) id⟩
 | c::d'::cs,x,ren,h,hf,hb,hmp,d,e,he=>by
  unfold jn at h;split at h <;> try cases h
  rename_i x1 r1 y r2 h1 h2;simp only [lhOf] at he;split at he
  ·rename_i a' ha;injection he with he
   subst he;obtain ⟨k1,k2,k3⟩:=MH hS h1 (fun z hz=>hf z (L3 _ hz)) (fun d hd=>hb d (by simp only [Q7]; exact L3 _ hd)) (fun d hd=>hmp d (by simp only [Q7]; exact L3 _ hd)) ha;refine ⟨k1,fun b hb'=>?_,fun t T xs e=>by simp only [Rg]; exact L3 _ (k3 t T xs e)⟩;obtain ⟨d0,e0,q1,q2,q3,q4⟩:=k2 b hb';exact ⟨d0,e0,q1,q2,q3,q4.imp (fun k=>⟨k.1,by simp only [Q7]; exact L3 _ k.2⟩) (fun k=>L3 _ k)⟩
  ·obtain ⟨k1,k2,k3⟩:=Is hS (d'::cs) y r2 h2 (fun z hz=>hf z (Qw _ hz)) (fun d hd=>hb d (by rw [Q7]; exact Qw _ hd)) (fun d hd=>hmp d (by rw [Q7]; exact Qw _ hd)) he;refine ⟨k1,fun b hb'=>?_,fun t T xs e=>by simp only [Rg]; exact Qw _ (k3 t T xs e)⟩;obtain ⟨d0,e0,q1,q2,q3,q4⟩:=k2 b hb';exact ⟨d0,e0,q1,q2,q3,q4.imp (fun k=>⟨k.1,by rw [Q7]; exact Qw _ k.2⟩) (fun k=>Qw _ k)⟩
end
section
variable {M:Nat->Prop} {p0:PH} {w0:World} {S:St} {tm:Array Value} {w:World} {p:PH} {β:Nat->Value}
def fo (β:Nat->Value):List (Nat×Option Nat)->Nat->Value
 | [],n=>β n
 | (k,src)::r,n=>if n=k then Eu β src else fo β r n
theorem ix:∀ {l:List Nat},lV l=true->l.Nodup
 | [],_=>List.nodup_nil
 | x::xs,h=>by
  simp only [lV,CF,QN] at h;refine SN.2 ⟨fun hm=>?_,ix h.2⟩;have:=QT.2 hm;rw [h.1] at this;cases this
theorem oI:∀ (ren:List (Nat×Option Nat)),(ren.map (·.1)).Nodup->B5 β (fo β ren) ren
 | [],_=>by intro x hx; cases hx
 | (k,src)::r,h=>by
  simp only [Q1,SN] at h;intro x hx;rcases Qs.1 hx with rfl | hx
  ·simp [fo]
  ·have hne:x.1≠k:=by
    intro e;exact h.1 (QR.2 ⟨x,hx,e⟩)
   simp only [fo,hne,QW];exact oI r h.2 x hx
theorem nk:∀ (ren:List (Nat×Option Nat)) (n:Nat),(∀ x∈ren,x.1≠n)->fo β ren n=β n
 | [],_,_=>rfl
 | (k,src)::r,n,h=>by
  have h1:=h (k,src) (by simp);simp only [fo,Ne.symm h1,QW];exact nk r n (fun x hx=>h x (by simp [hx]))
theorem ga {ren:List (Nat×Option Nat)} {x:Nat×Option Nat} (h:x∈ren):x.1∈bn ren/\∀ d,x.2=some d->d∈bn ren:=by
 unfold bn;refine ⟨R7.2 ⟨x,h,by simp⟩,fun d hd=>R7.2 ⟨x,h,by simp [hd]⟩⟩
theorem sE:∀ (ren:List (Nat×Option Nat)),(AK ren).Nodup->∀ {d d' d0:Nat},(d,some d0)∈ren->(d',some d0)∈ren->d=d'
 | [],_,_,_,_,h,_=>by cases h
 | (k,src)::r,hn,d,d',d0,h,h'=>by
  simp only [AK,Q7] at hn;have hn':=Tk.1 hn;have mem:∀ {d},(d,some d0)∈r->d0∈r.flatMap (fun x=>x.2.toList):=fun hm=>R7.2 ⟨_,hm,by simp⟩
  rcases Qs.1 h with e | h <;> rcases Qs.1 h' with e' | h'
  ·rw [zn] at e e'; rw [e.1,e'.1]
  ·rw [zn] at e;exact absurd rfl (hn'.2.2 d0 (by rw [<- e.2]; simp) d0 (mem h'))
  ·rw [zn] at e';exact absurd rfl (hn'.2.2 d0 (by rw [<- e'.2]; simp) d0 (mem h))
  ·exact sE r hn'.2.1 h h'
theorem MG:∀ (cs:List Cr) (x:dp cs) (ren:List (Nat×Option Nat)),jn S cs=some (x,ren)->∀ s e T d,Cr.own s e T∈cs->S.env s=.own d->(s,some d)∈ren:=by
 have one:∀ (c:Cr) (x:c.den) (ren:List (Nat×Option Nat)),c.get S=some (x,ren)->∀ s e T d,c=.own s e T->S.env s=.own d->(s,some d)∈ren:=by
  intro c x ren h s e T d hc hd;subst hc;obtain ⟨y,hy,h0⟩:=Dm.1 h;injection h0 with _ h00
  subst h00;rw [hd] at hy;simp only [AV.rowAt] at hy;split at hy <;> try cases hy
  split at hy <;> try cases hy
  split at hy <;> simp only [pS,reduceCtorEq] at hy;subst hy;simp
 intro cs
 induction cs with
 | nil=>intro x ren _ s e T d hm; cases hm
 | cons c cs ih =>
  intro x ren h s e T d hm hd;cases cs with
  | nil =>
   simp only [QA] at hm;exact one c x ren h s e T d hm.symm hd
  | cons c' cs =>
   unfold jn at h;split at h <;> try cases h
   rename_i x1 r1 y r2 h1 h2;rcases Qs.1 hm with hm | hm
   ·exact L3 _ (one c x1 r1 h1 s e T d hm.symm hd)
   ·exact Qw _ (ih y r2 h2 s e T d hm hd)
theorem AX {L X:List Nat} {cs:List Cr} {x:dp cs} {ren:List (Nat×Option Nat)} (hS:SatB M p0 w0 S tm w p β) (hg:jn S cs=some (x,ren)) (hc:Hq S L X cs ren=true) (hsi:Gn cs=true) :
  SatB M p0 w0 (be S L X cs x) tm w p (fo β ren):=by
 simp only [Hq,CF] at hc;obtain ⟨⟨⟨⟨hnames,hsrc⟩,hkeys⟩,hboxes⟩,hmi⟩:=hc;have hsrc:=ix hsrc;have hfits:=oI (β:=β) ren (ix hkeys);have hbad:∀ n∈bn ren,bH L X n=true:=fun n hn=>Qy.1 hnames n hn
 have hβ:∀ n,bH L X n=false->fo β ren n=β n:=fun n hn=>nk ren n (fun y hy e=>by
  have:=hbad _ (ga hy).1;rw [e,hn] at this;cases this)
 have hbx:∀ d∈cs.flatMap Cr.boxName,bH L X d=false/\S.lock d=false:=fun d hd=>by
  have:=Qy.1 hboxes d hd;simpa using this
 have hboxβ:∀ d∈cs.flatMap Cr.boxName,fo β ren d=β d:=fun d hd=>hβ d (hbx d hd).1
 have htw:Lj cs=true:=hsi;have hmapβ:∀ d∈cs.flatMap Cr.maps,fo β ren d=β d:=fun d hd=>hβ d (by simpa using Qy.1 hmi d hd)
 have hsame:∀ c s' d,c∈cs->c.twin=some s'->S.env s'=.own d->fo β ren s'=β d:=fun c s' d hm ht hd=>by
  have h1:=Qy.1 htw _ hm;simp only [ht] at h1;obtain ⟨c',hc',h2⟩:=RI.1 h1;cases c' <;> simp only [Qz] at h2;rename_i s'' e T;have h3:=CC h2;subst h3;exact hfits _ (MG cs x ren hg _ _ _ d hc' hd)
 have genv:=fun {s:Nat} {a:AV}=>Ev hS cs x ren hg hfits hsame (s:=s) (a:=a)
 have glh:=fun {d:Nat} {e:LE}=>Is hS cs x ren hg hfits hboxβ hmapβ (d:=d) (e:=e)
 have owner:∀ d e b,(be S L X cs x).lh d=some e->e.live=true->b8 (fo β ren d)=some b->∃ d0 e0,S.lh d0=some e0/\e0.live=true/\b8 (β d0)=some b/\((d0=d/\bH L X d=false)\/(d,some d0)∈ren):=by
  intro d e b hd hl hb;simp only [be] at hd;split at hd
  ·rename_i e' he;injection hd with hd
   subst hd;obtain ⟨d0,e0,k1,k2,k3,k4⟩:=(glh he).2.1 b hb;exact ⟨d0,e0,k1,k2,k3,k4.imp (fun k=>⟨k.1,(hbx d k.2).1⟩) id⟩
  ·cases hbd:bH L X d
   ·rw [hbd] at hd;simp only [QB,Dm] at hd;obtain ⟨e0,h1,rfl⟩:=hd;rw [LE.scrub_live] at hl;rw [hβ d hbd] at hb;exact ⟨d,e0,h1,hl,hb,.inl ⟨rfl,rfl⟩⟩
   ·rw [hbd] at hd; cases hd
 refine ⟨hS.keep,hS.agr,hS.old,hS.size,fun d e hd=>?_,fun d e b hd hl hb=>?_,fun d d' e e' b hd hl hd' hl' hb hb'=>?_,fun s=>?_⟩
 ·simp only [be] at hd;split at hd
  ·rename_i e' he;injection hd with hd
   subst hd;exact (glh he).1
  ·cases hbd:bH L X d
   ·rw [hbd] at hd;simp only [QB,Dm] at hd;obtain ⟨e0,h1,rfl⟩:=hd;exact LE.sat_scrub hβ d hbd e0 (hS.lhs d e0 h1)
   ·rw [hbd] at hd; cases hd
 ·obtain ⟨d0,e0,k1,k2,k3,_⟩:=owner d e b hd hl hb;exact hS.owns d0 e0 b k1 k2 k3
 ·obtain ⟨d0,e0,k1,k2,k3,k4⟩:=owner d e b hd hl hb;obtain ⟨d1,e1,q1,q2,q3,q4⟩:=owner d' e' b hd' hl' hb';have h01:=hS.inj d0 d1 e0 e1 b k1 k2 q1 q2 k3 q3;subst h01;rcases k4 with ⟨rfl,h1⟩ | h1 <;> rcases q4 with ⟨h3,h2⟩ | h2
  ·exact h3
  ·have:=hbad _ ((ga h2).2 _ rfl); rw [h1] at this; cases this
  ·subst h3;have:=hbad _ ((ga h1).2 _ rfl); rw [h2] at this; cases this
  ·exact sE ren hsrc h1 h2
 ·simp only [be];split
  ·rename_i a ha;exact genv ha
  ·cases hL:L.contains s
   ·simp only [QB];exact da (aL _) _ _ (AV.val_scrub hβ _ _ (hS.env s))
   ·trivial
theorem u0 (bad:Nat->Bool):∀ (x:AV),(x.scrub bad).scrub bad=x.scrub bad:=by
 intro x
 induction x with
 | own d=>simp only [AV.scrub]; cases h:bad d <;> simp [AV.scrub,h]
 | loc d off=>simp only [AV.scrub]; cases h:bad d <;> simp [AV.scrub,h]
 | el d T i off=>simp only [AV.scrub]; cases h:bad d <;> simp [AV.scrub,h]
 | mp d=>simp only [AV.scrub]; cases h:bad d <;> simp [AV.scrub,h]
 | osl d T i n=>simp only [AV.scrub]; cases h:bad d <;> simp [AV.scrub,h]
 | psl d i n=>simp only [AV.scrub]; cases h:bad d <;> simp [AV.scrub,h]
 | fn f c1 c2 =>
  simp only [AV.scrub];cases h:(c1.any fun x=>bad x.1)||(c2.any fun x=>bad x.1)
  ·simp only [QB,AV.scrub,h]
  ·rfl
 | pair a b iha ihb=>simp only [AV.scrub,iha,ihb]
 | tup a b iha ihb=>simp only [AV.scrub,iha,ihb]
 | gd g w a iha=>simp only [AV.scrub,iha]
 | _=>rfl
theorem gr (bad:Nat->Bool) (e:LE):(e.scrub bad).scrub bad=e.scrub bad:=by
 cases e <;> simp [LE.scrub,u0]
theorem nS (bad:Nat->Bool) (x:AV):B4 bad ((x.scrub bad).opn []):=by
 refine ⟨?_,co _ _⟩
 cases h:x.scrub bad <;> first
  | rfl
  | (rw [<- h]; have:(x.scrub bad).opn []=x.scrub bad:=by (rw [h]; rfl)
     rw [this]; exact u0 bad x)
theorem Bb {L X:List Nat} {cs:List Cr} {x x':dp cs} {S':St} (hF:Fr L (bH L X) (be S L X cs x) S') (henv:∀ (y:dp cs) s,(envOf cs y s).isSome=(envOf cs x s).isSome)
  (hlh:∀ (y:dp cs) d,(lhOf cs y d).isSome=(lhOf cs x d).isSome) (hbox:∀ d,(cs.flatMap Cr.boxName).contains d=true->(lhOf cs x d).isSome=true) :
  (be S' L X cs x').env=(be S L X cs x').env/\(be S' L X cs x').lh=(be S L X cs x').lh/\(be S' L X cs x').n=S.n:=by
 refine ⟨?_,?_,hF.n⟩
 ·funext s;simp only [be];cases he:envOf cs x' s with
  | some a=>rfl
  | none =>
   cases hL:L.contains s
   ·simp only [QB]
    have hnone:envOf cs x s=none:=by
     have:=henv x' s;rw [he] at this;cases hx:envOf cs x s with
     | none=>rfl
     | some a=>rw [hx] at this; cases this
    have e1:(be S L X cs x).env s=((S.env s).scrub (bH L X)).opn []:=by
     simp only [be,hnone,hL,QB]
    have hst:B4 (bH L X) ((be S L X cs x).env s):=by rw [e1]; exact nS _ _
    have h2:=hF.env s hL hst;rw [h2,e1,(nS (bH L X) (S.env s)).1,gT (co _ _)]
   ·rfl
 ·funext d;simp only [be];cases he:lhOf cs x' d with
  | some a=>rfl
  | none =>
   cases hb:bH L X d
   ·simp only [QB]
    have hnone:lhOf cs x d=none:=by
     have:=hlh x' d;rw [he] at this;cases hx:lhOf cs x d with
     | none=>rfl
     | some a=>rw [hx] at this; cases this
    have hnb:(cs.flatMap Cr.boxName).contains d=false:=by
     cases hbx:(cs.flatMap Cr.boxName).contains d
     ·rfl
     ·have:=hbox d hbx; rw [hnone] at this; cases this
    have e1:(be S L X cs x).lh d=(S.lh d).map (LE.scrub (bH L X)):=by
     simp only [be,hnone,hb,QB]
    have hlock:(be S L X cs x).lock d=true:=by simp only [be,hb,hnb]; rfl
    have h2:=hF.lh d hlock (fun e he=>by
     rw [e1] at he;simp only [Dm] at he;obtain ⟨e0,_,rfl⟩:=he;exact gr _ e0)
    rw [h2,e1];cases S.lh d with
    | none=>rfl
    | some e0=>simp only [Q6,gr]
   ·rfl
end
section
variable {L:List Nat} {bad:Nat->Bool} {S:St} {P:Program} {ss:Specs} {ops:Array Oper}
theorem Ok (hN:Named L bad) (h:Tidy bad S) (hd:∀ o∈ops.toList,∀ d,o.dst=some d->L.contains d=true) {ps:List Prop} {S':St} (hr:p8 P ss ops S.clean=some (ps,S')) :
  Fr L bad S S'/\Tidy bad S':=by
 have hc:=fS (L:=L) h;unfold p8 u6 at hr;have hf:=dm (L:=L) (bad:=bad) (eG ss ops S.clean) S.clean hc.2;have hc:=And.intro (hc.1.trans hf.1) hf.2;clear hf h;generalize S.clean.freeze (eG ss ops S.clean)=S1 at *;split at hr;rename_i ps1 rs hm;split at hr <;> try cases hr
 split at hr <;> simp only [pS,zn,reduceCtorEq] at hr;obtain ⟨rfl,rfl⟩:=hr;rename_i qs S' hrun;obtain ⟨n,h1,h2,h3⟩:=o7 (P:=P) (ss:=ss) (ops:=ops) (S:=S1) ops.toList [];rw [hm] at h1 h3;obtain ⟨rs1,e1,hl,hat⟩:=rI _ _ _ _ h3;simp only [Q0] at e1 hat;subst e1
 have k1:Fr L bad S1 (gN S1 rs):=by
  refine ⟨rfl,rfl,fun s hs _=>?_,fun _ _ _=>rfl,fun _ _ env h=>⟨env,h,fun _ _=>rfl⟩⟩
  have:lk rs s=none:=qL rs s (fun i a hi=>by
   have hlt:i<rs.length:=by
    rcases QO i rs.length with h | h
    ·exact h
    ·rw [List.getElem?_eq_none h] at hi; cases hi
   have ho:(ops.toList.take n)[i]?=some ((ops.toList.take n)[i]'(by omega)):=List.getElem?_eq_getElem (by omega);obtain ⟨qs',d,r,g1,g2,_⟩:=hat i _ ho;rw [hi] at g1;injection g1 with g1
   injection g1 with g1 _
   subst g1;have:=hd _ (RG (List.getElem_mem (by omega))) s (ur g2);rw [hs] at this;cases this)
  simp only [gN,this]
 have k2:Tidy bad (gN S1 rs):=⟨hc.2.lock,hc.2.row,hc.2.frame⟩;have k3:=wC hN _ _ _ _ k2 (fun o ho d hdst=>hd o (RW ho) d hdst) hrun;exact ⟨(hc.1.trans k1).trans k3.1,k3.2⟩
theorem G7 (l:List (Nat×AV)) (hl:∀ x∈l,L.contains x.1=true) (h:Tidy bad S):Fr L bad S (gN S l)/\Tidy bad (gN S l):=by
 refine ⟨⟨rfl,rfl,fun s hs _=>?_,fun _ _ _=>rfl,fun _ _ env h=>⟨env,h,fun _ _=>rfl⟩⟩,⟨h.lock,h.row,h.frame⟩⟩
 have:lk l s=none:=qL l s (fun i a hi=>by
  have:=hl _ (Rr hi);rw [hs] at this;cases this)
 simp only [gN,this]
theorem nX (f:Nat->Bool):∀ (ent:List (Option (Nat×AV))) (n:Nat) (x:Nat×AV),x∈dx f n ent->∃ a,some (x.1,a)∈ent
 | [],_,x,h=>by cases h
 | none::es,n,x,h=>by
  obtain ⟨a,h⟩:=nX f es (n+1) x h;exact ⟨a,QK _ h⟩
 | some (d,b)::es,n,x,h=>by
  simp only [dx] at h;rcases Qs.1 h with rfl | h
  ·exact ⟨b,QJ⟩
  ·obtain ⟨a,h⟩:=nX f es (n+1) x h;exact ⟨a,QK _ h⟩
theorem MK (h:Tidy bad S) (hd:∀ o∈ops.toList,∀ d,o.dst=some d->L.contains d=true):Fr L bad S (FM ss ops S)/\Tidy bad (FM ss ops S):=by
 have hc:=fS (L:=L) h
 have hs:=G7 (L:=L) ((uy ss ops).map fun d=>(d,AV.any)) (fun x hx=>by
  obtain ⟨d,hZ,rfl⟩:=QR.1 hx;obtain ⟨o,ho,he⟩:=RS.1 hZ;split at he
  ·cases he
  ·exact hd o ho d he) hc.2
 exact ⟨hc.1.trans hs.1,hs.2⟩
theorem Dr:∀ (os:List Oper) (i:Nat) (S:St) (ent:List (Option (Nat×AV))) (ps:List Prop) (Ss:List St) (ent':List (Option (Nat×AV))),iZ P ss ops os i S ent=some (ps,Ss,ent')->Ss≠[]
 | [],i,S,ent,ps,Ss,ent',h=>by
  simp only [iZ,pS,zn] at h;obtain ⟨_,rfl,_⟩:=h;simp
 | o::os,i,S,ent,ps,Ss,ent',h=>by
  unfold iZ at h;split at h
  ·split at h <;> try cases h
   split at h <;> simp only [pS,zn,reduceCtorEq] at h;obtain ⟨_,rfl,_⟩:=h;simp
  ·split at h <;> try cases h
   split at h <;> simp only [pS,zn,reduceCtorEq] at h;rename_i qs Ss1 ent1 hr;obtain ⟨_,rfl,_⟩:=h;exact Dr os _ _ _ _ _ _ hr
theorem wB (hN:Named L bad) (hd:∀ o∈ops.toList,∀ d,o.dst=some d->L.contains d=true):∀ (os:List Oper) (i:Nat) (S:St) (ent:List (Option (Nat×AV))) (ps:List Prop) (Ss:List St) (ent':List (Option (Nat×AV))),iZ P ss ops os i S ent=some (ps,Ss,ent')->Tidy bad S->(∀ o∈os,o∈ops.toList)->(∀ d a,some (d,a)∈ent->L.contains d=true) ->
  (∀ d a,some (d,a)∈ent'->L.contains d=true)/\∀ Sr,Ss.getLast?=some Sr->Fr L bad S Sr/\Tidy bad Sr
 | [],i,S,ent,ps,Ss,ent',h,hT,_,he=>by
  simp only [iZ,pS,zn] at h;obtain ⟨_,rfl,rfl⟩:=h;refine ⟨he,fun Sr hSr=>?_⟩;simp only [List.getLast?_singleton,pS] at hSr;subst hSr;exact ⟨Fr.refl _ _ _,hT⟩
 | o::os,i,S,ent,ps,Ss,ent',h,hT,hm,he=>by
  have hom:=hm o QJ;have hm':∀ o∈os,o∈ops.toList:=fun o ho=>hm o (QK _ ho)
  unfold iZ at h;split at h
  ·split at h <;> try cases h
   rename_i ps1 T hev;split at h <;> simp only [pS,zn,reduceCtorEq] at h;rename_i qs Ss1 ent1 hr;obtain ⟨rfl,rfl,rfl⟩:=h
   have k1:=G7 (L:=L) (dx (dS ops i) 0 ent) (fun x hx=>by
    obtain ⟨a,ha⟩:=nX _ _ _ _ hx;exact he _ _ ha) hT
   have k2:=ML hN k1.2 (hd o hom) hev;have k3:=MK (ss:=ss) k2.2 hd
   obtain ⟨k4,k5⟩:=wB hN hd os _ _ _ _ _ _ hr k3.2 hm' (fun d a h=>by
    rcases Qx.1 h with h | h
    ·exact he d a h
    ·cases QA.1 h)
   refine ⟨k4,fun Sr hSr=>?_⟩;cases hS1:Ss1 with
   | nil =>
    exfalso;have:=Dr os _ _ _ _ _ _ hr;exact this hS1
   | cons S1 Ss2 =>
    rw [hS1,List.getLast?_cons_cons,<- hS1] at hSr;obtain ⟨k6,k7⟩:=k5 Sr hSr;exact ⟨((k1.1.trans k2.1).trans k3.1).trans k6,k7⟩
  ·split at h <;> try cases h
   rename_i ps1 r d hev hdst;split at h <;> simp only [pS,zn,reduceCtorEq] at h;rename_i qs Ss1 ent1 hr;obtain ⟨rfl,rfl,rfl⟩:=h
   exact wB hN hd os _ _ _ _ _ _ hr hT hm' (fun d' a h=>by
    rcases Qx.1 h with h | h
    ·exact he d' a h
    ·have:=QA.1 h;injection this with this
     injection this with this _
     subst this;exact hd o hom _ hdst)
theorem OT (hN:Named L bad) (hT:Tidy bad S) (hd:∀ o∈ops.toList,∀ d,o.dst=some d->L.contains d=true) {ps:List Prop} {S':St} (hr:yA P ss ops S=some (ps,S')) :
  Fr L bad S S'/\Tidy bad S':=by
 unfold yA at hr;generalize Eq ops ops.size=k at *;have hdh:∀ o∈(ops.toList.take k).toArray.toList,∀ d,o.dst=some d->L.contains d=true:=fun o ho d hdst=>hd o (RG (by simpa using ho)) d hdst
 generalize (ops.toList.take k).toArray=he at *;unfold LN at hr;split at hr <;> try cases hr
 rename_i ps1 Ss ent hgo;split at hr <;> try cases hr
 rename_i qs Sr hchk hlast;split at hr <;> try cases hr
 split at hr <;> simp only [pS,zn,reduceCtorEq] at hr;rename_i qs2 S2 hrun;obtain ⟨rfl,rfl⟩:=hr;have k1:=MK (ss:=ss) hT hdh;obtain ⟨k2,k3⟩:=wB hN hdh _ _ _ _ _ _ _ hgo k1.2 (fun o ho=>ho) (fun d a h=>by cases h);obtain ⟨k4,k5⟩:=k3 Sr hlast
 have k6:=G7 (L:=L) (dx (fun _=>true) 0 ent) (fun x hx=>by
  obtain ⟨a,ha⟩:=nX _ _ _ _ hx;exact k2 _ _ ha) k5
 have k7:=wC hN _ _ _ _ k6.2 (fun o ho d hdst=>hd o (RW ho) d hdst) hrun;exact ⟨((k1.1.trans k4).trans k6.1).trans k7.1,k7.2⟩
theorem OU (_:Named L bad) (_:Tidy bad S) (_:∀ o∈ops.toList,∀ d,o.dst=some d->L.contains d=true) {ps:List Prop} {S':St} (hr:HS P ss ops S=some (ps,S')) :
  Fr L bad S S'/\Tidy bad S':=by cases hr
theorem P2 (hN:Named L bad) (hT:Tidy bad S) (hd:∀ o∈ops.toList,∀ d,o.dst=some d->L.contains d=true) {ps:List Prop} {S':St} (hr:JG P ss ops S=some (ps,S')) :
  Fr L bad S S'/\Tidy bad S':=by
 unfold JG at hr;split at hr
 ·rename_i r h1;injection hr with hr
  subst hr;exact OT hN hT hd h1
 ·have hf:=dm (L:=L) (bad:=bad) (eG ss ops S) S hT;have k:=OT hN hf.2 hd hr;exact ⟨hf.1.trans k.1,k.2⟩
theorem P3 (hN:Named L bad) (hT:Tidy bad S) (hd:∀ o∈ops.toList,∀ d,o.dst=some d->L.contains d=true) {ps:List Prop} {S':St} (hr:JH P ss ops S=some (ps,S')) :
  Fr L bad S S'/\Tidy bad S':=by
 unfold JH at hr;split at hr
 ·rename_i r h1;injection hr with hr
  subst hr;exact OU hN hT hd h1
 ·have hf:=dm (L:=L) (bad:=bad) (eG ss ops S) S hT;have k:=OU hN hf.2 hd hr;exact ⟨hf.1.trans k.1,k.2⟩
theorem MM (hN:Named L bad) (h:Tidy bad S) (hd:∀ o∈ops.toList,∀ d,o.dst=some d->L.contains d=true) {ps:List Prop} {S':St} (hr:na P ss ops S.clean=some (ps,S')) :
  Fr L bad S S'/\Tidy bad S':=by
 unfold na at hr;split at hr
 ·rename_i r h1;injection hr with hr
  subst hr;exact Ok hN h hd h1
 ·have hc:=fS (L:=L) h;split at hr
  ·rename_i r h1;injection hr with hr
   subst hr;have k:=P2 hN hc.2 hd h1;exact ⟨hc.1.trans k.1,k.2⟩
  ·have k:=P3 hN hc.2 hd hr;exact ⟨hc.1.trans k.1,k.2⟩
theorem MN {b:Bool} (hN:Named L bad) (h:Tidy bad S) (hd:∀ o∈ops.toList,∀ d,o.dst=some d->L.contains d=true) {ps:List Prop} {S':St} (hr:nb b P ss ops S.clean=some (ps,S')) :
  Fr L bad S S'/\Tidy bad S':=by
 unfold nb at hr;cases b
 ·exact MM hN h hd hr
 ·simp only [QS] at hr;have hc:=fS (L:=L) h;split at hr
  ·rename_i r h1;injection hr with hr
   subst hr;have k:=P2 hN hc.2 hd h1;exact ⟨hc.1.trans k.1,k.2⟩
  ·have k:=P3 hN hc.2 hd hr;exact ⟨hc.1.trans k.1,k.2⟩
end
def ru (φ ψ:Nat->Nat) (d:Nat):Bool:=Nat.beq (ψ (φ d)) d
def AV.ren (φ ψ:Nat->Nat):AV->AV
 | .own d=>bif ru φ ψ d then .own (φ d) else .any
 | .loc d off=>bif ru φ ψ d then .loc (φ d) off else .any
 | .el d T i off=>bif ru φ ψ d then .el (φ d) T i off else .any
 | .mp d=>bif ru φ ψ d then .mp (φ d) else .any
 | .fn f c1 c2=>bif (c1.all fun x=>ru φ ψ x.1)&&(c2.all fun x=>ru φ ψ x.1) then .fn f (c1.map fun x=>(φ x.1,x.2)) (c2.map fun x=>(φ x.1,x.2)) else .any
 | .pair a b=>.pair (a.ren φ ψ) (b.ren φ ψ)
 | .tup a b=>.tup (a.ren φ ψ) (b.ren φ ψ)
 | .gd g w a=>.gd g w (a.ren φ ψ)
 | .osl d T i n=>bif ru φ ψ d then .osl (φ d) T i n else .any
 | .psl d i n=>bif ru φ ψ d then .psl (φ d) i n else .any
 | .any=>.any
 | .int k n=>.int k n
 | .bool b=>.bool b
 | .str s=>.str s
 | .nils=>.nils
 | .sl T xs=>.sl T xs
 | .tnil=>.tnil
 | .pt T x off=>.pt T x off
 | .bl t f=>.bl t f
 | .fd A B g=>.fd A B g
 | .md k V m=>.md k V m
 | .nilm=>.nilm
 | .nilf=>.nilf
def LE.ren (φ ψ:Nat->Nat):LE->LE
 | .cells c=>.cells (c.ren φ ψ)
 | .row e T xs=>.row e T xs
 | .froz T xs=>.froz T xs
 | .mapp k V m=>.mapp k V m
 | .frozm k V m=>.frozm k V m
 | .iter k V l c=>.iter k V l c
 | .mapo k V m x c=>.mapo k V m x (c.ren φ ψ)
 | .dead=>.dead
 | .frame tm env=>.frame tm (fun s=>(env s).ren φ ψ)
theorem LE.ren_live (φ ψ:Nat->Nat) (e:LE):(e.ren φ ψ).live=e.live:=by cases e <;> rfl
def nc (φ ψ:Nat->Nat) (lh:Nat->Option LE):Nat->Option LE:=fun n=>bif Nat.beq (φ (ψ n)) n then (lh (ψ n)).map (LE.ren φ ψ) else none
section
variable {φ ψ:Nat->Nat} {p:PH} {β:Nat->Value} {tm:Array Value} {w:World}
theorem pf {d:Nat} (h:ru φ ψ d=true):ψ (φ d)=d:=CC h
theorem mi:∀ (c:List (Nat×Nat)) (vs:List Value),(c.all fun x=>ru φ ψ x.1)=true->ir β c vs->ir (fun n=>β (ψ n)) (c.map fun x=>(φ x.1,x.2)) vs
 | [],_,_,h=>h
 | (d,off)::c,_,hb,⟨b,rest,e,hd,hr⟩=>by
  simp only [Rt,CF] at hb;exact ⟨b,rest,e,by simp only [pf hb.1]; exact hd,mi c rest hb.2 hr⟩
theorem AV.one_ren (a:AV) (v:Value) (ha:a.one p β v):(a.ren φ ψ).one p (fun n=>β (ψ n)) v:=by
 cases a <;> simp only [AV.ren] <;> try (simp only [AV.one] at ha |- <;> exact ha)
 case own d=>cases hb:ru φ ψ d <;> simp only [QS,QB,AV.one] at ha |-; rw [pf hb]; exact ha
 case loc d off=>cases hb:ru φ ψ d <;> simp only [QS,QB,AV.one] at ha |-; rw [pf hb]; exact ha
 case el d T i off=>cases hb:ru φ ψ d <;> simp only [QS,QB,AV.one] at ha |-; rw [pf hb]; exact ha
 case osl d T i n=>cases hb:ru φ ψ d <;> simp only [QS,QB,AV.one] at ha |-; rw [pf hb]; exact ha
 case psl d i n=>cases hb:ru φ ψ d <;> simp only [QS,QB,AV.one] at ha |-; rw [pf hb]; exact ha
 case mp d=>cases hb:ru φ ψ d <;> simp only [QS,QB,AV.one] at ha |-; rw [pf hb]; exact ha
 case fn f c1 c2 =>
  cases hb:(c1.all fun x=>ru φ ψ x.1)&&(c2.all fun x=>ru φ ψ x.1) <;> simp only [QS,QB,AV.one] at ha |-;simp only [CF] at hb;obtain ⟨v1,v2,e,h1,h2⟩:=ha;exact ⟨v1,v2,e,mi _ _ hb.1 h1,mi _ _ hb.2 h2⟩
theorem AV.ren_pair (a:AV) (hp:∀ x y,a≠.pair x y):∀ x y,a.ren φ ψ≠.pair x y:=by
 intro x y e;cases a <;> simp only [AV.ren] at e <;> first | (exact absurd rfl (hp _ _)) | cases e | (revert e; cases ru _ _ _ <;> intro e <;> cases e) | (revert e; cases (_&&_) <;> intro e <;> cases e)
theorem AV.cells_ren:∀ (a:AV) (cs:List Value),a.cells p β cs->(a.ren φ ψ).cells p (fun n=>β (ψ n)) cs:=by
 intro a
 induction a with
 | pair a b _ ih2 =>
  intro cs hc
  match cs,hc with
  | v::cs,hc=>exact ⟨AV.one_ren a v hc.1,ih2 cs hc.2⟩
 | _ =>
  intro cs hc;obtain ⟨v,e,hv⟩:=(AV.cells_leaf _ (by intro x y e; cases e) cs).1 hc;exact (AV.cells_leaf _ (AV.ren_pair _ (by intro x y e; cases e)) cs).2 ⟨v,e,AV.one_ren _ v hv⟩
theorem AV.val1_ren (a:AV) (v:Value) (ha:a.val1 p β v):(a.ren φ ψ).val1 p (fun n=>β (ψ n)) v:=by
 by_cases hp:∀ x y,a≠.pair x y
 ·exact (AV.val1_leaf _ (AV.ren_pair a hp) v).2 (AV.one_ren a v ((AV.val1_leaf a hp v).1 ha))
 ·cases a <;> (first | (exfalso; apply hp; intro x y e; cases e; done) | skip);obtain ⟨cs,e,hc⟩:=ha;exact ⟨cs,e,AV.cells_ren _ _ hc⟩
theorem AV.vals_ren:∀ (a:AV) (vs:List Value),a.vals p β vs->(a.ren φ ψ).vals p (fun n=>β (ψ n)) vs:=by
 intro a
 induction a with
 | tup a b _ ih2 =>
  intro vs hv
  match vs,hv with
  | v::vs,hv=>exact ⟨AV.val1_ren a v hv.1,ih2 vs hv.2⟩
 | tnil=>intro vs hv; cases vs <;> exact hv
 | _=>intro vs hv; simp [AV.vals] at hv
theorem AV.val_ren:∀ (a:AV) (v:Value),a.val p β tm v->(a.ren φ ψ).val p (fun n=>β (ψ n)) tm v:=by
 intro a
 induction a with
 | gd g w a ih =>
  intro v ha;rcases ha with ⟨e,ha⟩ | ha
  ·exact .inl ⟨e,ih v ha⟩
  ·exact .inr ha
 | tup a b =>
  intro v ha;obtain ⟨vs,e,hv⟩:=ha;exact ⟨vs,e,AV.vals_ren _ _ hv⟩
 | tnil=>intro v ha; exact ha
 | pair a b=>intro v ha; exact AV.val1_ren _ v ha
 | _ =>
  intro v ha;have hs:=AV.val1_ren (φ:=φ) (ψ:=ψ) _ v ha;simp only [AV.ren] at hs |-
  first
   | exact hs
   | (revert hs; cases ru _ _ _ <;> exact fun hs=>hs)
   | (revert hs; cases (_&&_) <;> exact fun hs=>hs)
theorem LE.sat_ren {d:Nat} (e:LE) (he:e.sat p β w (ψ d)):(e.ren φ ψ).sat p (fun n=>β (ψ n)) w d:=by
 cases e with
 | cells c=>obtain ⟨b,cs,t,e1,e2,e3⟩:=he; exact ⟨b,cs,t,e1,e2,AV.cells_ren _ _ e3⟩
 | frame tm env=>exact fun s=>AV.val_ren _ _ (he s)
 | mapo k V m x c =>
  obtain ⟨r,es,clock,e1,e2,e3,e4,e5⟩:=he;refine ⟨r,es,clock,e1,e2,e3,e4,ci (fun o v hv=>?_) _ _ e5⟩;cases o with
  | some y=>exact hv
  | none=>exact AV.one_ren c v hv
 | dead=>trivial
 | _=>exact he
theorem AV.ren_noGd {x:AV} (h:x.noGd=true):(x.ren φ ψ).noGd=true:=by
 cases x <;> simp only [AV.ren] <;> first | rfl | (cases h; done) | (cases ru _ _ _ <;> rfl) | (cases (_&&_) <;> rfl)
end
theorem SatB.renamed {M:Nat->Prop} {p0:PH} {w0:World} {S:St} {tm tm':Array Value} {w:World} {p:PH} {β:Nat->Value} (h:SatB M p0 w0 S tm w p β) {φ ψ:Nat->Nat} {T:St}
  (hlh:∀ n e,T.lh n=some e->e.live=false/\e.sat p (fun n=>β (ψ n)) w n\/nc φ ψ S.lh n=some e) (hsz:tm'.size=T.n) (henv:∀ s,(T.env s).val p (fun n=>β (ψ n)) tm' (tm'.getD s undef)):SatB M p0 w0 T tm' w p (fun n=>β (ψ n)):=by
 have key:∀ n e,nc φ ψ S.lh n=some e->φ (ψ n)=n/\∃ e0,S.lh (ψ n)=some e0/\e=e0.ren φ ψ:=by
  intro n e he;unfold nc at he;cases hb:Nat.beq (φ (ψ n)) n
  ·rw [hb] at he; cases he
  ·rw [hb] at he;simp only [QS,Dm] at he;obtain ⟨e0,h1,h2⟩:=he;exact ⟨CC hb,e0,h1,h2.symm⟩
 refine ⟨h.keep,h.agr,h.old,hsz,fun n e he=>?_,fun n e b he hl hb=>?_,fun n n' e e' b he hl he' hl' hb hb'=>?_,henv⟩
 ·rcases hlh n e he with ⟨_,h1⟩ | h1
  ·exact h1
  ·obtain ⟨_,e0,h2,rfl⟩:=key n e h1;exact LE.sat_ren e0 (h.lhs _ _ h2)
 ·rcases hlh n e he with ⟨h1,_⟩ | h1
  ·rw [h1] at hl; cases hl
  ·obtain ⟨_,e0,h2,rfl⟩:=key n e h1;exact h.owns _ e0 b h2 (by rw [LE.ren_live] at hl; exact hl) hb
 ·rcases hlh n e he with ⟨h1,_⟩ | h1
  ·rw [h1] at hl; cases hl
  ·rcases hlh n' e' he' with ⟨k1,_⟩ | k1
   ·rw [k1] at hl'; cases hl'
   ·obtain ⟨g1,e0,h2,rfl⟩:=key n e h1;obtain ⟨g2,e1,k2,rfl⟩:=key n' e' k1;rw [LE.ren_live] at hl hl';have:=h.inj _ _ e0 e1 b h2 hl k2 hl' hb hb';rw [<- g1,<- g2,this]
def iT (d:Nat):Nat:=1000000 * d+900000
def xl (n:Nat):Nat:=bif Nat.beq (n % 1000000) 900000 then n / 1000000 else n
def kx (d m:Nat):Nat:=bif Nat.beq (m % 1000000) 900000 then m / 1000000 else d+1000000 * (100+m)
def tZ (d n:Nat):Nat:=bif Nat.beq (n % 1000000) d&&Nat.ble 100 (n / 1000000) then n / 1000000 - 100 else 1000000 * n+900000
def de:Nat:=900002
def Eh:List AV->Nat->AV
 | [],_=>.any
 | a::_,0=>a
 | _::xs,n+1=>Eh xs n
def dQ (tm:Array Value) (S:St) (n:Nat) (avs:List AV):St where
 env:=fun s=>(Eh avs s).ren iT xl
 lh:=fun d=>bif Nat.beq d de then some (.frame tm (fun s=>(S.env s).ren iT xl)) else nc iT xl S.lh d
 n:=n
 lock:=fun d=>bif Nat.beq d de then true else bif Nat.beq (d % 1000000) 900000 then S.lock (d / 1000000) else false
def AV.plain:AV->AV
 | .gd ..=>.any
 | .tup ..=>.any
 | .tnil=>.any
 | a=>a
def Lk:List AV->AV
 | []=>.tnil
 | a::xs=>.tup a.plain (Lk xs)
def LQ:List AV->AV
 | [a]=>a.plain
 | xs=>Lk xs
def tp (S S':St) (env':Nat->AV) (d:Nat) (avs:List AV):St :=
 St.set { env:=fun s=>(env' s).ren (kx d) (tZ d)
          lh:=fun n=>bif Nat.beq (tZ d n) de then none else nc (kx d) (tZ d) S'.lh n
          n:=S.n,lock:=S.lock } d ((LQ avs).ren (kx d) (tZ d))
def nF (bad:Nat->Bool) (n:Nat):Bool:=bif Nat.beq (n % 1000000) 900000 then bad (n / 1000000) else !Nat.beq n de
section
variable {M:Nat->Prop} {p0:PH} {w0:World} {S S':St} {tm tm':Array Value} {w w':World} {p:PH} {β:Nat->Value} {L L':List Nat} {bad:Nat->Bool}
theorem zk:∀ (avs:List AV) (s:Nat),Eh avs s=match avs[s]? with | some a=>a | none=>.any
 | [],s=>by simp [Eh]
 | a::xs,0=>rfl
 | a::xs,s+1=>by simp only [Eh,List.getElem?_cons_succ]; exact zk xs s
theorem KH (h:SatB M p0 w0 S tm w p β) {avs:List AV} {vs:List Value} (hl:vs.length=avs.length) (hv:∀ (i:Nat) a v,avs[i]?=some a->vs[i]?=some v->a.val p β tm v/\a.noGd=true) {n:Nat} (hn:avs.length<=n) :
  SatB M p0 w0 (dQ tm S n avs) (vs.toArray++Array.replicate (n - vs.toArray.size) undef) w p (fun n=>β (xl n)):=by
 refine h.renamed (φ:=iT) (fun d e he=>?_) (by simp [dQ,hl]; omega) (fun s=>?_)
 ·simp only [dQ] at he;cases hb:Nat.beq d de
  ·rw [hb] at he; exact .inr he
  ·rw [hb] at he;simp only [QS,pS] at he;subst he;exact .inl ⟨rfl,fun s=>AV.val_ren _ _ (h.env s)⟩
 ·simp only [dQ,zk];cases ha:avs[s]? with
  | none=>trivial
  | some a =>
   have hs:s<avs.length:=(List.getElem?_eq_some_iff.1 ha).1;have hv1:vs[s]?=some (vs[s]'(by omega)):=List.getElem?_eq_getElem (by omega)
   have e:(vs.toArray++Array.replicate (n - vs.toArray.size) undef).getD s undef=vs[s]'(by omega):=by
    simp only [Array.getD_eq_getD_getElem?,Array.getElem?_append,RE,List.getElem?_toArray];rw [if_pos (by omega),hv1];rfl
   rw [e];obtain ⟨k1,k2⟩:=hv s a _ ha hv1;exact fi (AV.ren_noGd k2) (AV.val_ren _ _ k1)
theorem vO {a:AV} {v:Value} (h:a.val p β tm v):a.plain.val1 p β v:=by
 cases a <;> first | trivial | exact h
theorem uI:∀ (avs:List AV) (vs:List Value),vs.length=avs.length->(∀ (i:Nat) a v,avs[i]?=some a->vs[i]?=some v->a.val p β tm v)->(Lk avs).vals p β vs
 | [],[],_,_=>trivial
 | [],_::_,h,_=>by cases h
 | _::_,[],h,_=>by cases h
 | a::xs,v::vs,hl,h=>⟨vO (h 0 a v rfl rfl),uI xs vs (by simpa using hl) (fun i a v ha hv=>h (i+1) a v (by simpa using ha) (by simpa using hv))⟩
theorem Gx (a:AV):a.plain.noGd=true:=by cases a <;> rfl
theorem Gq (avs:List AV):(LQ avs).noGd=true:=by
 match avs with
 | []=>rfl
 | [a]=>exact Gx a
 | _::_::_=>rfl
theorem JK {avs:List AV} {vs:List Value} (hl:vs.length=avs.length) (h:∀ (i:Nat) a v,avs[i]?=some a->vs[i]?=some v->a.val p β tm v):(LQ avs).val p β tm (cA vs):=by
 match avs,vs,hl,h with
 | [],[],_,_=>rfl
 | [a],[v],_,h=>exact AV.val_of_val1 (vO (h 0 a v rfl rfl))
 | a::b::xs,u::v::vs,hl,h=>exact ⟨u::v::vs,rfl,uI (a::b::xs) (u::v::vs) hl h⟩
theorem N1 (h:SatB M p0 w0 S' tm' w p β) {env':Nat->AV} (hf:S'.lh de=some (.frame tm env')) (hsz:tm.size=S.n) {d:Nat} (hd:d<S.n) {avs:List AV} {vs:List Value} (hl:vs.length=avs.length)
  (hv:∀ (i:Nat) a v,avs[i]?=some a->vs[i]?=some v->a.val p β tm' v):Sat M p0 w0 (tp S S' env' d avs) (tm.setIfInBounds d (cA vs)) w:=by
 refine ⟨p,fun n=>β (tZ d n),SatB.set ?_ hd (AV.val_ren _ _ (fi (Gq _) (JK hl hv)))⟩;refine h.renamed (φ:=kx d) (fun n e he=>?_) hsz (fun s=>AV.val_ren _ _ (h.lhs _ _ hf s));simp only at he;cases hb:Nat.beq (tZ d n) de
 ·rw [hb] at he; exact .inr he
 ·rw [hb] at he; cases he
theorem MR (h:∀ n,Bv n=true->bad n=true):∀ n,Bv n=true->nF bad n=true:=by
 intro n hn;unfold nF;unfold Bv at hn;rw [KC] at hn;cases hb:Nat.beq (n % 1000000) 900000
 ·rw [hb] at hn;simp only [QB] at hn |-;have:=QE hn;have hne:n≠de:=by unfold de; unfold Ol at this; omega
  rw [cj hne]; rfl
 ·rw [hb] at hn;simp only [QS] at hn |-;exact h _ (zE 8 _ hn)
theorem GY (h:L'.all (Nat.blt · 900000)=true):Named L' (nF bad):=by
 intro d hd k
 have h1:d<900000:=by
  have:=Qy.1 h d (QT.1 hd);simpa using this
 have h2:bB d k % 1000000=d:=by unfold bB; omega
 have h3:bB d k≠de:=by unfold de bB; omega
 unfold nF;rw [h2,cj (by omega),cj h3];rfl
theorem OW (d:Nat):xl (iT d)=d:=by
 unfold xl iT;have e1:(1000000 * d+900000) % 1000000=900000:=by omega
 have e2:(1000000 * d+900000) / 1000000=d:=by omega
 rw [e1,e2];rfl
theorem Am (d:Nat):iT d % 1000000=900000:=by unfold iT; omega
theorem An (d:Nat):iT d / 1000000=d:=by unfold iT; omega
theorem uH (d:Nat):iT d≠de:=by unfold iT de; omega
theorem BV (d:Nat):nF bad (iT d)=bad d:=by
 unfold nF;rw [Am,An];rfl
theorem EQ {n:Nat} {avs:List AV} (d:Nat):(dQ tm S n avs).lh (iT d)=(S.lh d).map (LE.ren iT xl):=by
 simp only [dQ,cj (uH d),QB,nc,OW,eB,QS]
theorem lu {n:Nat} {avs:List AV} (d:Nat):(dQ tm S n avs).lock (iT d)=S.lock d:=by
 simp only [dQ,cj (uH d),QB,Am,An,eB,QS]
theorem Dx {n:Nat} {e:LE} (h:nc iT xl S.lh n=some e):∃ m e0,n=iT m/\S.lh m=some e0/\e=e0.ren iT xl:=by
 unfold nc at h;cases hb:Nat.beq (iT (xl n)) n
 ·rw [hb] at h; cases h
 ·rw [hb] at h;simp only [QS,Dm] at h;obtain ⟨e0,h1,h2⟩:=h;exact ⟨xl n,e0,(CC hb).symm,h1,h2.symm⟩
theorem Hh (hT:Tidy bad S) {n:Nat} {avs:List AV}:Tidy (nF bad) (dQ tm S n avs):=by
 refine ⟨fun d hd=>?_,fun d e T xs hd hl=>?_,fun d tm' env hd=>?_⟩
 ·simp only [dQ] at hd;cases hb:Nat.beq d de
  ·rw [hb] at hd;simp only [QB] at hd;unfold nF;cases hu:Nat.beq (d % 1000000) 900000
   ·rw [hu] at hd; cases hd
   ·rw [hu] at hd; exact hT.lock _ hd
  ·have:=CC hb;subst this;rfl
 ·simp only [dQ] at hd;cases hb:Nat.beq d de
  ·rw [hb] at hd;obtain ⟨m,e0,rfl,h2,h3⟩:=Dx hd;rw [lu] at hl;rw [BV];cases e0 <;> simp only [LE.ren,reduceCtorEq] at h3;exact hT.row m _ _ _ h2 hl
  ·rw [hb] at hd; cases hd
 ·simp only [dQ] at hd;cases hb:Nat.beq d de
  ·rw [hb] at hd;obtain ⟨m,e0,rfl,h2,h3⟩:=Dx hd;rw [lu];cases e0 <;> simp only [LE.ren,reduceCtorEq] at h3;exact hT.frame m _ _ h2
  ·simp only [dQ,hb,QS]
theorem Pk {d n:Nat} (hN:Named L bad) (hd:L.contains d=true) (hn:bad n=false):tZ d n=iT n:=by
 unfold tZ;cases hb:Nat.beq (n % 1000000) d&&Nat.ble 100 (n / 1000000)
 ·rfl
 ·exfalso;simp only [CF] at hb;have h1:=CC hb.1;have:=hN d hd (n / 1000000);have e:bB d (n / 1000000)=n:=by unfold bB; omega
  rw [e,hn] at this;cases this
theorem Ic {d m:Nat} (h:tZ d m=iT m):ru (kx d) (tZ d) (iT m)=true/\kx d (iT m)=m:=by
 have e:kx d (iT m)=m:=by
  unfold kx;rw [Am,An];rfl
 exact ⟨by unfold ru; rw [e,h]; exact eB _,e⟩
theorem oX (m:Nat):ru iT xl m=true:=by unfold ru; rw [OW]; exact eB _
theorem mD {d:Nat} (hback:∀ m,bad m=false->tZ d m=iT m):∀ (x:AV),x.scrub bad=x->(x.ren iT xl).scrub (nF bad)=x.ren iT xl/\(x.ren iT xl).ren (kx d) (tZ d)=x:=by
 have leaf:∀ m,bad m=false->nF bad (iT m)=false/\ru (kx d) (tZ d) (iT m)=true/\kx d (iT m)=m:=fun m hm=>⟨by rw [BV]; exact hm,Ic (hback m hm)⟩
 intro x
 induction x with
 | own m =>
  intro h;have hm:bad m=false:=by simp only [AV.scrub] at h; cases hb:bad m; rfl; rw [hb] at h; cases h
  obtain ⟨k1,k2,k3⟩:=leaf m hm;simp only [AV.ren,oX,AV.scrub,k1,k2,k3,QS,QB,SD]
 | loc m off =>
  intro h;have hm:bad m=false:=by simp only [AV.scrub] at h; cases hb:bad m; rfl; rw [hb] at h; cases h
  obtain ⟨k1,k2,k3⟩:=leaf m hm;simp only [AV.ren,oX,AV.scrub,k1,k2,k3,QS,QB,SD]
 | el m T i off =>
  intro h;have hm:bad m=false:=by simp only [AV.scrub] at h; cases hb:bad m; rfl; rw [hb] at h; cases h
  obtain ⟨k1,k2,k3⟩:=leaf m hm;simp only [AV.ren,oX,AV.scrub,k1,k2,k3,QS,QB,SD]
 | mp m =>
  intro h;have hm:bad m=false:=by simp only [AV.scrub] at h; cases hb:bad m; rfl; rw [hb] at h; cases h
  obtain ⟨k1,k2,k3⟩:=leaf m hm;simp only [AV.ren,oX,AV.scrub,k1,k2,k3,QS,QB,SD]
 | psl m i n =>
  intro h;have hm:bad m=false:=by simp only [AV.scrub] at h; cases hb:bad m; rfl; rw [hb] at h; cases h
  obtain ⟨k1,k2,k3⟩:=leaf m hm;simp only [AV.ren,oX,AV.scrub,k1,k2,k3,QS,QB,SD]
 | osl m T i n =>
  intro h;have hm:bad m=false:=by simp only [AV.scrub] at h; cases hb:bad m; rfl; rw [hb] at h; cases h
  obtain ⟨k1,k2,k3⟩:=leaf m hm;simp only [AV.ren,oX,AV.scrub,k1,k2,k3,QS,QB,SD]
 | fn f c1 c2 =>
  intro h
  have hm:((c1.any fun x=>bad x.1)||(c2.any fun x=>bad x.1))=false:=by
   simp only [AV.scrub] at h;cases hb:(c1.any fun x=>bad x.1)||(c2.any fun x=>bad x.1)
   ·rfl
   ·rw [hb] at h; cases h
  simp only [Rn] at hm;have all:∀ c:List (Nat×Nat),(c.all fun x=>ru iT xl x.1)=true:=fun c=>Qy.2 (fun x _=>oX _)
  have key:∀ c:List (Nat×Nat),(c.any fun x=>bad x.1)=false->((c.map fun x=>(iT x.1,x.2)).any fun x=>nF bad x.1)=false/\((c.map fun x=>(iT x.1,x.2)).all fun x=>ru (kx d) (tZ d) x.1)=true/\((c.map fun x=>(iT x.1,x.2)).map fun x=>(kx d x.1,x.2))=c:=by
   intro c
   induction c with
   | nil=>intro _; exact ⟨rfl,rfl,rfl⟩
   | cons x c ih =>
    intro hc;simp only [Sa,Rn] at hc;obtain ⟨j1,j2,j3⟩:=ih hc.2;obtain ⟨k1,k2,k3⟩:=leaf _ hc.1;simp only [Q1,Sa,Rt,k1,k2,k3,j1,j2,j3,Bool.or_self,Bool.and_self,SD]
  obtain ⟨a1,a2,a3⟩:=key c1 hm.1;obtain ⟨b1,b2,b3⟩:=key c2 hm.2;simp only [AV.ren,all,Bool.and_self,QS,AV.scrub,a1,b1,Bool.or_self,QB,a2,b2,a3,b3,SD]
 | pair a b iha ihb =>
  intro h;simp only [AV.scrub,AV.pair.injEq] at h;simp only [AV.ren,AV.scrub,(iha h.1).1,(ihb h.2).1,(iha h.1).2,(ihb h.2).2,SD]
 | tup a b iha ihb =>
  intro h;simp only [AV.scrub,AV.tup.injEq] at h;simp only [AV.ren,AV.scrub,(iha h.1).1,(ihb h.2).1,(iha h.1).2,(ihb h.2).2,SD]
 | gd g w a iha =>
  intro h;simp only [AV.scrub,AV.gd.injEq,Sb] at h;simp only [AV.ren,AV.scrub,(iha h).1,(iha h).2,SD]
 | _=>intro _; exact ⟨rfl,rfl⟩
theorem IG {d:Nat} (hback:∀ m,bad m=false->tZ d m=iT m) (e:LE) (h:e.scrub bad=e):(e.ren iT xl).scrub (nF bad)=e.ren iT xl/\(e.ren iT xl).ren (kx d) (tZ d)=e:=by
 cases e with
 | cells c =>
  simp only [LE.scrub,LE.cells.injEq] at h;simp only [LE.ren,LE.scrub,(mD hback c h).1,(mD hback c h).2,SD]
 | mapo k V m x c =>
  simp only [LE.scrub,LE.mapo.injEq,heq_eq_eq,Sb] at h;simp only [LE.ren,LE.scrub,(mD hback c h).1,(mD hback c h).2,SD]
 | frame tm env =>
  simp only [LE.scrub,LE.frame.injEq,Sb] at h;have k:=fun s=>mD hback (env s) (congrFun h s)
  simp only [LE.ren,LE.scrub,(k _).1,(k _).2,SD]
 | _=>exact ⟨rfl,rfl⟩
theorem Pm (hT:Tidy bad S) (hN:Named L bad) {d:Nat} (hd:L.contains d=true) {S2:St} (hlu:∀ m,S2.lh (iT m)=(S.lh m).map (LE.ren iT xl)) (hlf:S2.lh de=some (.frame tm (fun s=>(S.env s).ren iT xl)))
  (hku:∀ m,S2.lock (iT m)=S.lock m) (hko:∀ n,S2.lock n=true->n=de\/∃ m,n=iT m) (hF:Fr L' (nF bad) S2 S') (hT':Tidy (nF bad) S') {env':Nat->AV} (hf:S'.lh de=some (.frame tm env')) (avs:List AV) :
  Fr L bad S (tp S S' env' d avs)/\Tidy bad (tp S S' env' d avs):=by
 have hback:∀ m,bad m=false->tZ d m=iT m:=fun m hm=>Pk hN hd hm
 have hlh:∀ m,bad m=false->(tp S S' env' d avs).lh m=(S'.lh (iT m)).map (LE.ren (kx d) (tZ d)):=by
  intro m hm;simp only [tp,St.set,hback m hm,cj (uH m),QB,nc,(Ic (hback m hm)).2,eB,QS]
 obtain ⟨env2,k1,k2⟩:=hF.frames de tm _ hlf;rw [hf] at k1;injection k1 with k1
 injection k1 with _ k1
 subst k1;refine ⟨⟨rfl,rfl,fun s hs hst=>?_,fun n hn hst=>?_,fun n tm1 env1 hn=>?_⟩,⟨hT.lock,fun n e T xs hn hl=>?_,fun n tm1 env1 hn=>?_⟩⟩
 ·have hne:s≠d:=by intro e; subst e; rw [hd] at hs; cases hs
  have kb:=mD hback (S.env s) hst.1;have e1:(tp S S' env' d avs).env s=((env' s).ren (kx d) (tZ d)).killG d:=by simp only [tp,St.set,cj hne,QB]
  rw [e1,k2 s ⟨kb.1,AV.ren_noGd hst.2⟩,kb.2];exact wq hst.2 d
 ·have hb:=hT.lock n hn;rw [hlh n hb]
  have e1:=hF.lh (iT n) (by rw [hku]; exact hn) (fun e he=>by
   rw [hlu] at he;simp only [Dm] at he;obtain ⟨e0,g1,rfl⟩:=he;exact (IG hback e0 (hst e0 g1)).1)
  rw [e1,hlu];cases hl:S.lh n with
  | none=>rfl
  | some e0=>simp only [Q6,(IG hback e0 (hst e0 hl)).2]
 ·have hb:=hT.lock n (hT.frame n tm1 env1 hn);have e1:=hlu n;rw [hn] at e1;simp only [Q6,LE.ren] at e1;obtain ⟨env3,g1,g2⟩:=hF.frames _ _ _ e1;refine ⟨fun s=>(env3 s).ren (kx d) (tZ d),by rw [hlh n hb,g1]; rfl,fun s hs=>?_⟩;have kb:=mD hback (env1 s) hs.1;show (env3 s).ren (kx d) (tZ d)=env1 s;rw [g2 s ⟨kb.1,AV.ren_noGd hs.2⟩,kb.2]
 ·cases hb:bad n
  ·exfalso;rw [hlh n hb] at hn;simp only [Dm] at hn;obtain ⟨e0,g1,g2⟩:=hn;cases e0 <;> simp only [LE.ren,reduceCtorEq] at g2;have:=hT'.row _ _ _ _ g1 (by rw [hF.lock,hku]; exact hl);rw [BV,hb] at this;cases this
  ·rfl
 ·have hn':(bif Nat.beq (tZ d n) de then none else nc (kx d) (tZ d) S'.lh n)=some (.frame tm1 env1):=hn;cases hfr:Nat.beq (tZ d n) de
  ·rw [hfr] at hn';simp only [QB,nc] at hn';cases ho:Nat.beq (kx d (tZ d n)) n
   ·rw [ho] at hn'; cases hn'
   ·rw [ho] at hn';simp only [QS,Dm] at hn';obtain ⟨e0,g1,g2⟩:=hn';cases e0 <;> simp only [LE.ren,reduceCtorEq] at g2;have hlk:=hT'.frame _ _ _ g1;rw [hF.lock] at hlk;rcases hko _ hlk with h1 | ⟨m,h1⟩
    ·rw [h1] at hfr; simp at hfr
    ·rw [h1,hku] at hlk;have:=CC ho;rw [h1] at this;have e2:kx d (iT m)=m:=by unfold kx; rw [Am,An]; rfl
     rw [e2] at this;subst this;exact hlk
  ·rw [hfr] at hn'; cases hn'
end
def PB (ops:Array Oper) (i:Nat):Bool:=match ops[i]? with
 | some o=>o.guard.isNone&&match o.op with
  | .move _=>true
  | .fieldAddr ..=>true
  | _=>false
 | none=>false
def rJ (P:Program) (ss:Specs) (ops:Array Oper):Nat->Array Bool->St->(St->Prop)->Prop
 | 0,listed,S,K=>if (Region.ready .any ops listed).isEmpty then K S else False
 | fuel+1,listed,S,K=>if (Region.ready .any ops listed).isEmpty then K S else
   match (Region.ready .any ops listed).find? (fun i=>PB ops i&&Region.free .any ops listed i) with
   | some i=>(match ops[i]? with
    | some o=>(match oP P ss S [] o,o.dst with
     | some (ps,r),some d=>if Nat.blt d S.n&&Region.noSelect ops then ps.foldr And (rJ P ss ops fuel (listed.setIfInBounds i true) (S.set d (r.opn [])) K) else False
     | _,_=>False)
    | none=>False)
   | none=>(Region.ready .any ops listed).foldr (fun i acc=>(match ops[i]? with
    | some o=>if o.guard.isNone then (match Bx P ss ops o S with
      | some (ps,S1)=>ps.foldr And (rJ P ss ops fuel (listed.setIfInBounds i true) S1 K)
      | none=>False) else False
    | none=>False)/\acc) True
theorem r8 {q:Prop}:∀ (ps:List Prop),ps.foldr And q->(∀ x∈ps,x)/\q
 | [],h=>⟨fun x hx=>(by cases hx),h⟩
 | p::ps,h=>by
  obtain ⟨h1,h2⟩:=r8 ps h.2;refine ⟨fun x hx=>?_,h2⟩;rcases Qs.1 hx with rfl | hx
  ·exact h.1
  ·exact h1 x hx
theorem wE {α:Type} {f:α->Prop}:∀ (l:List α),l.foldr (fun i acc=>f i/\acc) True->∀ i∈l,f i
 | [],_,_,hi=>by cases hi
 | x::l,h,i,hi=>by
  rcases Qs.1 hi with rfl | hi
  ·exact h.1
  ·exact wE l h.2 i hi
section
variable {M:Nat->Prop} {p0:PH} {w0:World} {P:Program} {ss:Specs} {ops:Array Oper}
theorem MS (hss:ss.okA P M w0) {Q:Exit->Act->World->Prop} {K:Act->World->Prop} {o:Oper} {S S1:St} {ps1:List Prop} {a:Act} {w:World} (hg:o.guard=none) (h1:Bx P ss ops o S=some (ps1,S1)) (hp1:∀ q∈ps1,q)
  (hS:Sat M p0 w0 S a.tmps w) (nextK:∀ a' w',Sat M p0 w0 S1 a'.tmps w'->a'.defers=a.defers->K a' w'):o.wp P a w K Q:=by
 obtain ⟨p,β,hB⟩:=hS;unfold Bx at h1;rw [hg] at h1;simp only at h1;split at h1
 ·rename_i ps' r d hv hd;split at h1 <;> simp only [pS,zn,reduceCtorEq] at h1 <;> obtain ⟨rfl,rfl⟩:=h1;rename_i hdn;refine r9 hB hss (aL _) hv hp1 K Q (fun v w' p' hS' hle hr=>?_);rw [hd];exact nextK _ w' ⟨p',β,hS'.set (dh hdn) (fi (co _ _) (da (aL _) _ _ hr))⟩ rfl
 ·split at h1
  ·rename_i x hx;injection h1 with h1
   subst h1;split at hx <;> try cases hx
   exact si hB hss hx hp1 K Q nextK
  ·split at h1 <;> try cases h1
   rename_i ps' r d hv hd;split at h1 <;> simp only [pS,zn,reduceCtorEq] at h1 <;> obtain ⟨rfl,rfl⟩:=h1;rename_i hdn;refine jS hB hss (aL _) hv hp1 K Q (fun v w' p' hS' hle hr=>?_);rw [hd];exact nextK _ w' ⟨p',β,hS'.set (dh hdn) (fi (co _ _) (da (aL _) _ _ hr))⟩ rfl
theorem M1 {S:St} {w0':World} {p:PH} {β:Nat->Value} {a:Act} (hB:SatB M p0 w0 S a.tmps w0' p β) {i:Nat} {o:Oper} (ho:ops[i]?=some o) (he:PB ops i=true) {ps:List Prop} {r:AV} (h:oP P ss S [] o=some (ps,r)) :
  o.guard=none/\∃ v,(∀ w,(execOp a.eval o).run P w=.ok (.value v) w)/\r.val p β a.tmps v:=by
 unfold PB at he;rw [ho] at he;simp only [CF,Option.isNone_iff_eq_none] at he;refine ⟨he.1,?_⟩;have he:=he.2;split at he
 ·rename_i x hop;unfold oP at h;rw [hop] at h;simp only [pS,zn] at h;obtain ⟨_,rfl⟩:=h;exact ⟨a.eval x,fun w=>by simp only [execOp,hop]; rfl,aS hB (aL _) x⟩
 ·rename_i s x k hop;unfold oP at h;rw [hop] at h;simp only at h;have hx:=aS hB (aL _) x;unfold kX at h;split at h <;> try cases h
  rename_i fs hu;split at h <;> try cases h
  rename_i f hf;split at h <;> try cases h
  rename_i inf hi;split at h
  ·cases h
  rename_i hz;have hz:inf.size≠0:=by intro e; rw [e] at hz; simp at hz
  have run:∀ (w:World) b o,(Instr.fieldAt s (.pointer (some ⟨b,o,none⟩)) k).run P w=.ok (.pointer (some ⟨b,o+f.offset,none⟩)) w:=by
   intro w b o;simp [Instr.fieldAt,QM hu,hf,Instr.sureAddr,fieldPlace,sizeOf,typeInfo,hi,hz,fX]
  have fin:∀ (b o':Nat),a.eval x=.pointer (some ⟨b,o',none⟩)->∀ w,(execOp a.eval o).run P w=.ok (.value (.pointer (some ⟨b,o'+f.offset,none⟩))) w:=by
   intro b o' e w;simp only [execOp,hop,e,QL,run w b o',QC,QU]
  split at h <;> simp only [pS,zn,reduceCtorEq] at h <;> obtain ⟨rfl,rfl⟩:=h
  ·rename_i T y off hl;rw [hl] at hx;obtain ⟨b,o',es,e1,hh,hc⟩:=hx;exact ⟨_,fin _ _ e1,b,o',es,by rw [SF],hh,hc⟩
  ·rename_i d off hl;rw [hl] at hx;obtain ⟨b,e1,e2⟩:=hx;exact ⟨_,fin _ _ e2,b,e1,rfl⟩
  ·rename_i d T n off hl;rw [hl] at hx;obtain ⟨b,e1,e2⟩:=hx;exact ⟨_,fin _ _ e2,b,e1,by rw [SF]⟩
 ·cases he
theorem AN (hss:ss.okA P M w0) {L:List Nat} {bad:Nat->Bool} (hN:Named L bad) (hdst:∀ o∈ops.toList,∀ d,o.dst=some d->L.contains d=true) {ds:List Deferred} {S0:St} {K:St->Prop} {Q:Exit->Act->World->Prop} (hQp:∀ c a w,¬ Q (.panic c) a w)
  (hQ:∀ S' a' w',K S'->Fr L bad S0 S'->Tidy bad S'->Sat M p0 w0 S' a'.tmps w'->a'.defers=ds->Q .normal a' w') :
  ∀ (fuel:Nat) (listed:Array Bool) (S:St) (a:Act) (w:World),rJ P ss ops fuel listed S K->Fr L bad S0 S->Tidy bad S->Sat M p0 w0 S a.tmps w->a.defers=ds->wpAny P .any ops Q fuel listed a w:=by
 intro fuel
 induction fuel with
 | zero =>
  intro listed S a w h hF hT hS hd;unfold rJ at h;split at h
  ·rename_i he;exact ⟨List.isEmpty_iff.1 he,hQ S a w h hF hT hS hd⟩
  ·exact h.elim
 | succ fuel ih =>
  intro listed S a w h hF hT hS hd;unfold rJ at h;split at h
  ·rename_i he;refine ⟨fun _=>hQ S a w h hF hT hS hd,fun i hi=>?_⟩;rw [List.isEmpty_iff.1 he] at hi;cases hi
  ·rename_i he;split at h
   ·rename_i i hfind;have hi:=List.mem_of_find?_eq_some hfind;have hc:=List.find?_some hfind;simp only [CF] at hc;split at h
    case h_2=>exact h.elim
    rename_i o ho;split at h
    case h_2=>exact h.elim
    rename_i ps r d hev hdo;split at h
    case isFalse=>exact h.elim
    rename_i hb;simp only [CF] at hb;obtain ⟨p,β,hB⟩:=hS;obtain ⟨hg,v,hrun,hv⟩:=M1 hB ho hc.1 hev;obtain ⟨hp,h⟩:=r8 ps h;have hmem:o∈ops.toList:=Rr (show ops.toList[i]?=some o by simpa using ho);refine wpAny_take ho hb.2 hc.2 (by simpa using hi) (fun c a w hq=>absurd hq (hQp c _ w)) (.inl ⟨by simp [Region.wanted,hg],hrun⟩) ?_;rw [hdo];exact ih _ (S.set d (r.opn [])) (a.put (some d) v) w h (hF.trans (iG (hdst o hmem d hdo) _)) (eJ hT _ _) ⟨p,β,hB.set (dh hb.1) (fi (co _ _) (da (aL _) _ _ hv))⟩ hd
   refine ⟨fun e=>by rw [e] at he; exact absurd rfl he,fun i hi=>?_⟩;have h:=wE _ h i hi;unfold wpOp;split at h
   ·rename_i o ho;split at h
    ·rename_i hg;have hg:o.guard=none:=by simpa using hg
     split at h
     ·rename_i ps S1 h1;obtain ⟨hp,h⟩:=r8 ps h;have hmem:o∈ops.toList:=Rr (show ops.toList[i]?=some o by simpa using ho);have hfr:=Bo (L:=L) hN hT (hdst o hmem) h1;simp only [ho];rw [if_pos (by simp [Region.wanted,hg])];refine .inl (MS hss hg h1 hp hS fun a' w' hS' hd'=>?_);exact ih _ S1 a' w' h (hF.trans hfr.1) hfr.2 hS' (hd'.trans hd)
     ·exact h.elim
    ·exact h.elim
   ·exact h.elim
end
end Go.Proofs.YtmfileeamnfpaaaGreatDoor
