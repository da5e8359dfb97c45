
import Derived.Test.YtmfileeamnfpaaaGreatDoorEG4
namespace Go.Proofs.YtmfileeamnfpaaaGreatDoor
open Go
def jC:AV->AV->Option (List Prop)
 | .any,.any=>some []
 | .int k a,.int k' b=>if k=k' then some [a=b] else none
 | .bool a,.bool b=>some [a=b]
 | .str a,.str b=>some [a=b]
 | .nils,.nils=>some []
 | .sl T xs,.sl T' ys=>if h:T'=T then some [xs=h ▸ ys] else none
 | .own d,.own d'=>if d=d' then some [] else none
 | .mp d,.mp d'=>if d=d' then some [] else none
 | .loc d o,.loc d' o'=>if d=d'/\o=o' then some [] else none
 | .pt T x o,.pt T' y o'=>if h:T'=T then (if o=o' then some [x=h ▸ y] else none) else none
 | .el d T i o,.el d' T' i' o'=>if d=d'/\T=T'/\o=o' then some [i=i'] else none
 | .nilm,.nilm=>some []
 | .nilf,.nilf=>some []
 | .pair a b,.pair a' b'=>match jC a a',jC b b' with
  | some p,some q=>some (p++q)
  | _,_=>none
 | .tnil,.tnil=>some []
 | .tup a b,.tup a' b'=>match jC a a',jC b b' with
  | some p,some q=>some (p++q)
  | _,_=>none
 | _,_=>none
theorem EO:∀ (x y:AV) (ps:List Prop),jC x y=some ps->(∀ q∈ps,q)->x=y:=by
 intro x
 induction x with
 | pair a b iha ihb =>
  intro y ps h hp;cases y <;> simp only [jC,reduceCtorEq] at h;rename_i a' b';split at h <;> simp only [Jg,reduceCtorEq] at h;rename_i p q h1 h2;subst h;rw [iha a' p h1 (fun z hz=>hp z (ND _ hz)),ihb b' q h2 (fun z hz=>hp z (NF _ hz))]
 | tup a b iha ihb =>
  intro y ps h hp;cases y <;> simp only [jC,reduceCtorEq] at h;rename_i a' b';split at h <;> simp only [Jg,reduceCtorEq] at h;rename_i p q h1 h2;subst h;rw [iha a' p h1 (fun z hz=>hp z (ND _ hz)),ihb b' q h2 (fun z hz=>hp z (NF _ hz))]
 | tnil=>intro y ps h hp; cases y <;> simp only [jC,reduceCtorEq] at h <;> rfl
 | int k a =>
  intro y ps h hp;cases y <;> simp only [jC,reduceCtorEq] at h;split at h <;> simp only [Jg,reduceCtorEq] at h;rename_i hk;subst h hk;rw [hp _ (NS)]
 | bool a =>
  intro y ps h hp;cases y <;> simp only [jC,reduceCtorEq,Jg] at h;subst h;rw [hp _ (NS)]
 | str a =>
  intro y ps h hp;cases y <;> simp only [jC,reduceCtorEq,Jg] at h;subst h;rw [hp _ (NS)]
 | sl T xs =>
  intro y ps h hp;cases y <;> simp only [jC,reduceCtorEq] at h;split at h <;> simp only [Jg,reduceCtorEq] at h;rename_i hT;subst hT h;rw [hp _ (NS)]
 | own d =>
  intro y ps h hp;cases y <;> simp only [jC,reduceCtorEq] at h;split at h <;> simp only [Jg,reduceCtorEq] at h;rename_i hd;rw [hd]
 | mp d =>
  intro y ps h hp;cases y <;> simp only [jC,reduceCtorEq] at h;split at h <;> simp only [Jg,reduceCtorEq] at h;rename_i hd;rw [hd]
 | loc d o =>
  intro y ps h hp;cases y <;> simp only [jC,reduceCtorEq] at h;split at h <;> simp only [Jg,reduceCtorEq] at h;rename_i hd;rw [hd.1,hd.2]
 | pt T x o =>
  intro y ps h hp;cases y <;> simp only [jC,reduceCtorEq] at h;split at h <;> try cases h
  rename_i hT;split at h <;> simp only [Jg,reduceCtorEq] at h;rename_i ho;subst hT ho h;rw [hp _ (NS)]
 | el d T i o =>
  intro y ps h hp;cases y <;> simp only [jC,reduceCtorEq] at h;split at h <;> simp only [Jg,reduceCtorEq] at h;rename_i hd;obtain ⟨rfl,rfl,rfl⟩:=hd;subst h;rw [hp _ (NS)]
 | any=>intro y ps h hp; cases y <;> simp only [jC,reduceCtorEq] at h <;> rfl
 | nils=>intro y ps h hp; cases y <;> simp only [jC,reduceCtorEq] at h <;> rfl
 | nilm=>intro y ps h hp; cases y <;> simp only [jC,reduceCtorEq] at h <;> rfl
 | nilf=>intro y ps h hp; cases y <;> simp only [jC,reduceCtorEq] at h <;> rfl
 | _=>intro y ps h hp; cases y <;> simp only [jC,reduceCtorEq] at h
structure Over (nm:Nat->Bool) (ex:Nat->Prop) (B B' T T':St):Prop where
 lh:T'.lh=T.lh
 n:T'.n=T.n
 lock:T'.lock=T.lock
 env:∀ s,B'.env s=B.env s->T'.env s=T.env s
 keep:∀ s,¬ ex s->(∀ k,nm k=true->(B'.env s).scrub (fun y=>Nat.beq y k)=B'.env s)->(B'.env s).noGd=true->T'.env s=B'.env s
section
variable {nm:Nat->Bool} {ex:Nat->Prop} {B B' T T':St}
theorem Over.entry (h:Over nm ex B B' T T') (d:Nat) (e:LE):Over nm ex B B' (T.entry d e) (T'.entry d e) :=
 ⟨by simp only [St.entry,h.lh],h.n,h.lock,h.env,h.keep⟩
theorem Over.freeze1 (h:Over nm ex B B' T T') (d:Nat):Over nm ex B B' (T.freeze1 d) (T'.freeze1 d):=by
 unfold St.freeze1;rw [h.lh,h.lock];split
 ·split
  ·exact h
  ·exact h.entry _ _
 ·split
  ·exact h
  ·exact h.entry _ _
 ·exact h
theorem Over.freeze:∀ (ds:List Nat) {T T':St},Over nm ex B B' T T'->Over nm ex B B' (T.freeze ds) (T'.freeze ds)
 | [],_,_,h=>h
 | d::ds,_,_,h=>Over.freeze ds (h.freeze1 d)
theorem Over.fresh (h:Over nm ex B B' T T') {d:Nat} (hd:nm d=true) (e:LE):Over nm ex B B' (T.fresh d e) (T'.fresh d e):=by
 refine ⟨by simp only [St.fresh,St.scrub,St.entry,h.lh],h.n,h.lock,fun s hs=>?_,fun s hex hs hg=>?_⟩
 ·show (T'.env s).scrub _=(T.env s).scrub _;rw [h.env s hs]
 ·show (T'.env s).scrub _=_;rw [h.keep s hex hs hg];exact hs d hd
theorem Over.set (h:Over nm ex B B' T T') {d:Nat} (hd:ex d) (a:AV):Over nm ex B B' (T.set d a) (T'.set d a):=by
 refine ⟨h.lh,h.n,h.lock,fun s hs=>?_,fun s hex hs hg=>?_⟩
 ·simp only [St.set,h.env s hs]
 ·have hne:s≠d:=fun e=>hex (e ▸ hd)
  simp only [St.set,dH hne,NK,h.keep s hex hs hg];exact gE hg
theorem Over.put (h:Over nm ex B B' T T') (R:RT) (x:R.den) {name:Nat} (hn:nm name=true):Over nm ex B B' (R.put x name T) (R.put x name T'):=by
 cases R with
 | dat _=>exact h
 | own e T0=>exact h.fresh hn _
 | map k V=>exact h.fresh hn _
theorem Over.res {d:Nat} (hn:∀ k,nm (br d k)=true):∀ (Rs:List RT) (k:Nat) (x:ed Rs) {T T':St},Over nm ex B B' T T'->Over nm ex B B' (kI d k Rs x T) (kI d k Rs x T')
 | [],_,_,_,_,h=>h
 | [R],k,x,_,_,h=>h.put R x (hn k)
 | R::U::Rs,k,x,_,_,h=>Over.res hn (U::Rs) (k+1) x.2 (h.put R x.1 (hn k))
end
def fS (ss:Specs) (o:Oper):Bool:=match o.dst,o.op with
 | none,.store ..=>true
 | none,.mapUpdate ..=>true
 | some _,.call { callee:=.builtin .append,.. }=>true
 | some _,.call { callee:=.builtin .copy,.. }=>true
 | some _,.alloc ..=>true
 | some _,.makeSlice ..=>true
 | some _,.assign _=>true
 | some _,.slice _ _ none (some _) none=>ss.cut
 | some _,.call { callee:=.value (.func f),.. }=>(ss.row f).isSome||(match ss f with
  | some s=>!s.Rs.all RT.isDat
  | none=>false)
 | _,_=>false
def Ew (o:Oper) (n:Nat):Bool:=match o.dst with
 | some d=>Nat.beq (n % 1000000) d
 | none=>false
theorem D8 {d:Nat} (hd:d<1000000) (k:Nat):Nat.beq (br d k % 1000000) d=true:=by
 unfold br;rw [Nat.add_mul_mod_self_left,Nat.mod_eq_of_lt hd];exact Nat.beq_refl d
theorem J5 {P:Program} {ss:Specs} {o:Oper} {B B' T:St} {ps:List Prop} (hu:fS ss o=true) (hd:∀ d,o.dst=some d->d<1000000) (h:KE P ss B o=some (ps,T)) (hl:B'.lh=B.lh) (hn:B'.n=B.n) (hk:B'.lock=B.lock)
  (hv:∀ x∈o.op.operands,B'.val x=B.val x):∃ T',KE P ss B' o=some (ps,T')/\Over (Ew o) (fun s=>o.dst=some s) B B' T T':=by
 have hlook:∀ x∈o.op.operands,B'.look [] x=B.look [] x:=fun x hx=>by unfold St.look; rw [hv x hx]
 have h0:Over (Ew o) (fun s=>o.dst=some s) B B' B B':=⟨hl,hn,hk,fun s hs=>hs,fun _ _ _ _=>rfl⟩;obtain ⟨dst,op,type,pos,after,guard⟩:=o;unfold fS at hu;simp only at hu hd hlook hv h;cases dst with
 | none =>
  cases op <;> simp only [NJ] at hu
  ·rename_i t ad v;have e1:=hlook ad (by simp [Op.operands]);have e2:=hlook v (by simp [Op.operands]);have h:j6 P B t (B.look [] ad) (B.look [] v)=some (ps,T):=h
   have goal:∃ T',j6 P B' t (B.look [] ad) (B.look [] v)=some (ps,T')/\Over (fun _=>false) (fun s=>(none:Option Tmp)=some s) B B' T T':=by
    have h0:Over (fun _=>false) (fun s=>(none:Option Tmp)=some s) B B' B B':=⟨hl,hn,hk,fun s hs=>hs,fun _ _ _ _=>rfl⟩;generalize B.look [] ad=A at *;generalize B.look [] v=V at *;unfold j6 at h |-;have hfz:=(h0.freeze V.owns).lh;simp only [hl,hk,hfz];split at h <;> try cases h
    rename_i c hc;split at h <;> try cases h
    rename_i hc0;rw [if_neg hc0];split at h <;> try cases h
    ·split at h <;> try cases h
     rename_i cc hcc
     try simp only [hcc]
     split at h <;> simp only [Jg,Ny,reduceCtorEq] at h;rename_i hb;obtain ⟨rfl,rfl⟩:=h;rw [if_pos hb];exact ⟨_,rfl,h0.entry _ _⟩
    ·split at h;rotate_left
     ·rename_i c1 hcc
      try simp only [hcc]
      split at h <;> try cases h
      rename_i N c2 hput
      try simp only [hput]
      split at h <;> simp only [Jg,Ny,reduceCtorEq] at h;rename_i hb;obtain ⟨rfl,rfl⟩:=h;rw [if_pos hb];exact ⟨_,rfl,(h0.freeze _).entry _ _⟩
     ·cases h
     rename_i e' T' xs hcc
     try simp only [hcc]
     split at h <;> try cases h
     rename_i hT;rw [dif_pos hT];split at h <;> try cases h
     rename_i hb;rw [if_pos hb];split at h <;> simp only [Jg,Ny,reduceCtorEq] at h;rename_i y hy;obtain ⟨rfl,rfl⟩:=h
     try simp only [hy]
     exact ⟨_,rfl,(h0.freeze _).entry _ _⟩
   obtain ⟨T',g1,g2⟩:=goal;refine ⟨T',?_,⟨g2.lh,g2.n,g2.lock,g2.env,fun s hs hsc hg=>g2.keep s hs (fun k hk=>by cases hk) hg⟩⟩;show j6 P B' t (B'.look [] ad) (B'.look [] v)=_;rw [e1,e2];exact g1
  ·rename_i t m x v;have e1:=hlook m (by simp [Op.operands]);have e2:=hlook x (by simp [Op.operands]);have e3:=hlook v (by simp [Op.operands]);have h:gb ss.opn P B t (B.look [] m) (B.look [] x) (B.look [] v)=some (ps,T):=h
   have goal:∃ T',gb ss.opn P B' t (B.look [] m) (B.look [] x) (B.look [] v)=some (ps,T')/\Over (fun _=>false) (fun s=>(none:Option Tmp)=some s) B B' T T':=by
    have h0:Over (fun _=>false) (fun s=>(none:Option Tmp)=some s) B B' B B':=⟨hl,hn,hk,fun s hs=>hs,fun _ _ _ _=>rfl⟩;generalize B.look [] m=A at *;generalize B.look [] x=X at *;generalize B.look [] v=V at *
    have key0:∀ T,gH P B t A X V=some (ps,T)->∃ T',gH P B' t A X V=some (ps,T')/\Over (fun _=>false) (fun s=>(none:Option Tmp)=some s) B B' T T':=by
     intro T h;unfold gH at h |-;have hfz:=(h0.freeze V.owns).lh;simp only [hk,hfz];split at h <;> try cases h
     rename_i k kt e d k' n' hm;split at h <;> try cases h
     rename_i k'' V' l hcc
     try simp only [hcc]
     split at h <;> try cases h
     rename_i hkk;rw [if_pos hkk];split at h <;> try cases h
     rename_i hlk;rw [if_neg hlk];split at h <;> simp only [Jg,Ny,reduceCtorEq] at h;rename_i y hy;obtain ⟨rfl,rfl⟩:=h
     try simp only [hy]
     exact ⟨_,rfl,(h0.freeze _).entry _ _⟩
    have keyO:∀ ps T,eD P B t A X V=some (ps,T)->∃ T',eD P B' t A X V=some (ps,T')/\Over (fun _=>false) (fun s=>(none:Option Tmp)=some s) B B' T T':=by
     intro ps T h;unfold eD at h |-;simp only [hl,hk];split at h <;> try cases h
     split at h <;> try cases h
     rename_i hcc
     try simp only [hcc]
     split at h <;> try cases h
     rename_i hkk;rw [if_pos hkk];split at h <;> try cases h
     rename_i hlk;rw [if_neg hlk];split at h <;> simp only [Jg,Ny,reduceCtorEq] at h;rename_i hlf;obtain ⟨rfl,rfl⟩:=h;rw [if_pos hlf];exact ⟨_,rfl,h0.entry _ _⟩
    have noO:eD P B t A X V=none->eD P B' t A X V=none:=by
     intro h;unfold eD at h |-;simp only [hl,hk];split at h <;> try rfl
     split at h <;> try rfl
     rename_i hcc
     try simp only [hcc]
     split at h;rotate_left
     ·rename_i hkk;rw [if_neg hkk]
     rename_i hkk;rw [if_pos hkk];split at h
     ·rename_i hlk;rw [if_pos hlk]
     rename_i hlk;rw [if_neg hlk];split at h
     ·cases h
     ·rename_i hlf;rw [if_neg hlf]
    unfold gb at h |-;cases ho:ss.opn with
    | true =>
     rw [ho] at h;simp only [N2] at h |-;unfold kQ at h |-;simp only [hl,hk];split at h <;> try cases h
     split at h <;> try cases h
     rename_i hcc
     try simp only [hcc]
     split at h <;> try cases h
     rename_i hkk;rw [if_pos hkk];split at h <;> try cases h
     rename_i hlk;rw [if_neg hlk];split at h <;> simp only [Jg,Ny,reduceCtorEq] at h;rename_i hlf;obtain ⟨rfl,rfl⟩:=h;rw [if_pos hlf];exact ⟨_,rfl,h0.entry _ _⟩
    | false =>
     rw [ho] at h;simp only [NK] at h |-;cases h1:eD P B t A X V with
     | some r =>
      rw [h1] at h;injection h with h
      subst h;obtain ⟨T',g1,g2⟩:=keyO _ _ h1;rw [g1];exact ⟨T',rfl,g2⟩
     | none =>
      rw [h1] at h;rw [noO h1];exact key0 _ h
   obtain ⟨T',g1,g2⟩:=goal;refine ⟨T',?_,⟨g2.lh,g2.n,g2.lock,g2.env,fun s hs hsc hg=>g2.keep s hs (fun k hk=>by cases hk) hg⟩⟩;show gb ss.opn P B' t (B'.look [] m) (B'.look [] x) (B'.look [] v)=_;rw [e1,e2,e3];exact g1
 | some d =>
  have hd:=hd d rfl;have hnm:∀ k,Ew { dst:=some d,op:=op,type:=type,pos:=pos,after:=after,guard:=guard } (br d k)=true:=fun k=>D8 hd k
  have hnd:Ew { dst:=some d,op:=op,type:=type,pos:=pos,after:=after,guard:=guard } d=true:=by
   have:=hnm 0;simpa [br] using this
  cases op with
  | call c =>
   obtain ⟨callee,args,argTypes⟩:=c;have hargs:args.toList.map (B'.look [])=args.toList.map (B.look []):=OL fun x hx=>hlook x (by simp only [Op.operands,Call.operands,Pi]; exact .inr (by simpa using hx))
   cases callee with
   | builtin b =>
    cases b <;> simp only [NJ] at hu
    case copy =>
     have h:(match args.toList,argTypes.toList with
      | [x,y],[t,_]=>nY P B d t (B.look [] x) (B.look [] y)
      | _,_=>none)=some (ps,T):=h
     show ∃ T',(match args.toList,argTypes.toList with
      | [x,y],[t,_]=>nY P B' d t (B'.look [] x) (B'.look [] y)
      | _,_=>none)=some (ps,T')/\_
     split at h <;> try cases h
     rename_i x y t t' ha ht;rw [ha] at hargs;simp only [Oi,Pa,PL,PF] at hargs;simp only [hargs.1,hargs.2];generalize B.look [] x=A at *;generalize B.look [] y=X at *;unfold nY at h |-;simp only [hl,hk,hn];split at h <;> try cases h
     rename_i d1 i n qs T0 ys hsp hys
     try simp only [hsp,hys]
     split at h <;> try cases h
     rename_i e T1 xs ig
     try simp only [ig]
     split at h <;> try cases h
     rename_i hT;rw [dif_pos hT];split at h <;> simp only [Jg,Ny,reduceCtorEq] at h;rename_i hb;obtain ⟨rfl,rfl⟩:=h;rw [if_pos hb];exact ⟨_,rfl,(h0.entry _ _).set rfl _⟩
    have h:(match args.toList,argTypes.toList with
     | [s,x],[t,t']=>if Nat.beq t t' then jA P B d t (B.look [] s) (B.look [] x) else eO P B d t t' (B.look [] s) (B.look [] x)
     | _,_=>none)=some (ps,T):=h
    show ∃ T',(match args.toList,argTypes.toList with
     | [s,x],[t,t']=>if Nat.beq t t' then jA P B' d t (B'.look [] s) (B'.look [] x) else eO P B' d t t' (B'.look [] s) (B'.look [] x)
     | _,_=>none)=some (ps,T')/\_
    split at h <;> try cases h
    rename_i s x t t' ha ht;rw [ha] at hargs;simp only [Oi,Pa,PL,PF] at hargs;simp only [hargs.1,hargs.2];generalize B.look [] s=A at *;generalize B.look [] x=X at *;split at h
    ·rename_i htt;rw [if_pos htt];unfold jA at h |-;simp only [hl,hk,hn];split at h <;> try cases h
     rename_i e he
     try simp only [he]
     split at h <;> try cases h
     rename_i T0 ys hys
     try simp only [hys]
     split at h <;> try cases h
     rename_i hb;rw [if_pos hb];split at h
     ·simp only [Jg,Ny] at h;obtain ⟨rfl,rfl⟩:=h;exact ⟨_,rfl,(h0.fresh hnd _).set rfl _⟩
     ·rename_i d1;split at h <;> try cases h
      rename_i e' T' xs ig
      try simp only [ig]
      split at h <;> try cases h
      rename_i hT;rw [dif_pos hT];split at h <;> simp only [Jg,Ny,reduceCtorEq] at h;rename_i hb2;obtain ⟨rfl,rfl⟩:=h;rw [if_pos hb2];exact ⟨_,rfl,((h0.entry _ _).fresh hnd _).set rfl _⟩
     ·cases h
    ·rename_i htt;rw [if_neg htt];unfold eO at h |-;simp only [hk,hn];split at h <;> try cases h
     rename_i e k he hk'
     try simp only [he,hk']
     split at h <;> try cases h
     rename_i T0 hT0
     try simp only [hT0]
     split at h <;> try cases h
     rename_i i hi
     try simp only [hi]
     split at h <;> try cases h
     rename_i z hz
     try simp only [hz]
     split at h <;> try cases h
     rename_i y k2 n hy
     try simp only [hy]
     split at h <;> simp only [Jg,Ny,reduceCtorEq] at h;rename_i hb;obtain ⟨rfl,rfl⟩:=h;rw [if_pos hb];exact ⟨_,rfl,(h0.fresh hnd _).set rfl _⟩
   | value f =>
    cases f <;> simp only [NJ] at hu;rename_i f;have h:lu P ss B d f args.toList=some (ps,T):=h;show ∃ T',lu P ss B' d f args.toList=some (ps,T')/\_;unfold lu at h |-;split at h
    ·rename_i r hr;split at h <;> try cases h
     rename_i a rest ha;rw [ha] at hargs;simp only [Oi,PL] at hargs;split at h <;> try cases h
     rename_i hcal;rw [if_pos hcal,hargs.1,hargs.2];generalize B.look [] a=A at *;generalize rest.map (B.look [])=R at *;unfold jk at h |-;have hfz:=h0.freeze ((r.mid R).flatMap AV.owns);simp only [hk,hn,hfz.lh];split at h <;> try cases h
     rename_i n xs hn1
     try simp only [hn1]
     split at h <;> try cases h
     rename_i ys x hys hx
     try simp only [hys,hx]
     split at h <;> simp only [Jg,Ny,reduceCtorEq] at h;rename_i hb;obtain ⟨rfl,rfl⟩:=h;rw [if_pos hb];refine ⟨_,rfl,?_⟩;cases r.out
     ·exact (hfz.entry _ _).set rfl _
     ·exact ((hfz.entry _ _).fresh hnd _).set rfl _
    ·rename_i r hr;split at h <;> try cases h
     rename_i a rest ha;rw [ha] at hargs;simp only [Oi,PL] at hargs;split at h <;> try cases h
     rename_i hcal;rw [if_pos hcal,hargs.1,hargs.2];generalize B.look [] a=A at *;generalize rest.map (B.look [])=R at *;unfold jl at h |-;split at h <;> try cases h
     rename_i n;have hbo:c8 B' n=c8 B n:=by unfold c8; rw [hl]
     have hfz:=h0.freeze (c8 B n++R.flatMap AV.owns);simp only [hbo,hk,hn,hfz.lh];split at h <;> try cases h
     rename_i c hc
     try simp only [hc]
     split at h <;> try cases h
     rename_i x y hx hy
     try simp only [hx,hy]
     split at h <;> simp only [Jg,Ny,reduceCtorEq] at h;rename_i hb;obtain ⟨rfl,rfl⟩:=h;rw [if_pos hb];exact ⟨_,rfl,(Over.res hnm r.Rs 0 _ (hfz.entry _ _)).set rfl _⟩
    ·have hcs:Over (Ew { dst:=some d,op:=Op.call { callee:=.value (.func f),args:=args,argTypes:=argTypes },type:=type,pos:=pos,after:=after,guard:=guard }) (fun s=>(some d:Option Tmp)=some s) B B' (fD ss B f args.toList) (fD ss B' f args.toList):=by
      unfold fD;split
      ·split
       ·rw [hargs];exact h0.freeze _
       ·exact h0
      ·exact h0
     have hcl:args.toList.map ((fD ss B' f args.toList).look [])=args.toList.map ((fD ss B f args.toList).look []):=by
      have e:∀ (S:St) (x:Operand),(fD ss S f args.toList).look [] x=S.look [] x:=by
       intro S x;unfold fD;split
       ·split
        ·rw [Co]
        ·rfl
       ·rfl
      exact (OL fun x _=>e B' x).trans (hargs.trans (OL fun x _=>(e B x).symm))
     simp only [hcl,hcs.lh,hn];split at h <;> try cases h
     rename_i q0 Rs x he
     try simp only [he]
     split at h <;> simp only [Jg,Ny,reduceCtorEq] at h;rename_i hb;obtain ⟨rfl,rfl⟩:=h
     have hb':(Nat.blt d B.n&&jW B' d 0 Rs)=true:=by
      have:∀ (Rs:List RT) (k:Nat),jW B' d k Rs=jW B d k Rs:=by
       intro Rs
       induction Rs with
       | nil=>intro k; rfl
       | cons R Rs ih=>intro k; cases R <;> simp only [jW,hk,ih]
      rw [this];exact hb
     rw [if_pos hb'];exact ⟨_,rfl,(Over.res hnm Rs 0 x hcs).set rfl _⟩
   | _=>simp only [NJ] at hu
  | alloc elem =>
   have h:lx P B d elem=some (ps,T):=h;show ∃ T',lx P B' d elem=some (ps,T')/\_;unfold lx at h |-;simp only [hk,hn];split at h <;> try cases h
   rename_i i hi
   try simp only [hi]
   split at h <;> try cases h
   rename_i z hz
   try simp only [hz]
   split at h <;> simp only [Jg,Ny,reduceCtorEq] at h;rename_i hb;obtain ⟨rfl,rfl⟩:=h;rw [if_pos hb];exact ⟨_,rfl,(h0.fresh hnd _).set rfl _⟩
  | makeSlice t l c =>
   have e1:=hlook l (by simp [Op.operands]);have h:(if k8 l c then nV P B d t (B.look [] l) else none)=some (ps,T):=h;show ∃ T',(if k8 l c then nV P B' d t (B'.look [] l) else none)=some (ps,T')/\_;split at h <;> try cases h
   rename_i hlc;rw [if_pos hlc,e1];generalize B.look [] l=A at *;unfold nV at h |-;simp only [hk,hn];split at h <;> try cases h
   rename_i e he
   try simp only [he]
   split at h <;> try cases h
   rename_i T0 hT0
   try simp only [hT0]
   split at h <;> try cases h
   rename_i i hi
   try simp only [hi]
   split at h <;> try cases h
   rename_i z hz
   try simp only [hz]
   split at h <;> try cases h
   rename_i y k2 n hy
   try simp only [hy]
   split at h <;> simp only [Jg,Ny,reduceCtorEq] at h;rename_i hb;obtain ⟨rfl,rfl⟩:=h;rw [if_pos hb];exact ⟨_,rfl,(h0.fresh hnd _).set rfl _⟩
  | assign x =>
   have e1:=hlook x (by simp [Op.operands]);have h:(if Nat.blt d B.n then some (([]:List Prop),B.set d (B.look [] x)) else none)=some (ps,T):=h;show ∃ T',(if Nat.blt d B'.n then some (([]:List Prop),B'.set d (B'.look [] x)) else none)=some (ps,T')/\_;split at h <;> simp only [Jg,Ny,reduceCtorEq] at h;rename_i hb;obtain ⟨rfl,rfl⟩:=h;rw [hn,if_pos hb,e1];exact ⟨_,rfl,h0.set rfl _⟩
  | slice t x lo hi mx =>
   cases lo with
   | some _=>simp only [NJ] at hu
   | none =>
   cases hi with
   | none=>simp only [NJ] at hu
   | some hh =>
   cases mx with
   | some _=>simp only [NJ] at hu
   | none =>
   have e1:=hlook x (by simp [Op.operands]);have e2:=hlook hh (by simp [Op.operands]);have h:uH P B d t (B.look [] x) (B.look [] hh)=some (ps,T):=h;show ∃ T',uH P B' d t (B'.look [] x) (B'.look [] hh)=some (ps,T')/\_;rw [e1,e2];generalize B.look [] x=A at *;generalize B.look [] hh=H at *;unfold uH at h |-;simp only [hl,hk,hn];split at h <;> try cases h
   rename_i d1 k b;split at h <;> try cases h
   rename_i e T0 xs ig
   try simp only [ig]
   split at h <;> simp only [Jg,Ny,reduceCtorEq] at h;rename_i hb;obtain ⟨rfl,rfl⟩:=h;rw [if_pos hb];exact ⟨_,rfl,((h0.entry _ _).fresh hnd _).set rfl _⟩
  | _=>simp only [NJ] at hu
def dg (L:Nat->Bool):Nat->List (Option (Nat×AV))->List (Nat×AV)
 | _,[]=>[]
 | i,none::es=>dg L (i+1) es
 | i,some (d,a)::es=>(d,bif L i then a else .any)::dg L (i+1) es
def dD (ops:Array Oper) (i j:Nat):Bool:=((eI ops).getD i 0).testBit j
def xg (ss:Specs) (ops:Array Oper) (k i:Nat) (o:Oper):Bool :=
 (bi o).all (fun e=>Nat.blt e i) &&
 (o.op.operands.toList.all fun x=>match x with
  | .tmp t=>(List.range k).all fun j=>match ops[j]? with
   | some oj=>fS ss oj||(match oj.dst with
    | some d=>!Nat.beq d t||(bi o).contains j
    | none=>true)
   | none=>true
  | _=>true)
theorem ld {ss:Specs} {ops:Array Oper} {k i:Nat} {o:Oper} (h:xg ss ops k i o=true):(∀ e∈bi o,e<i)/\∀ t,Operand.tmp t∈o.op.operands->∀ (j:Nat) oj,j<k->ops[j]?=some oj->fS ss oj=false->oj.dst=some t->j∈bi o:=by
 simp only [xg,NA] at h;obtain ⟨h1,h2⟩:=h;refine ⟨fun e he=>by simpa using NH.1 h1 e he,fun t ht j oj hj ho hu hd=>?_⟩;have:=NH.1 h2 (.tmp t) (by simpa using ht);simp only at this;have:=NH.1 this j (by simpa using hj);simp only [ho,hu,hd,Pt,Oj,NX] at this;rcases this with h | h
 ·simp at h
 ·simpa using h
def sM (ss:Specs) (ops:Array Oper):List Nat:=ops.toList.filterMap fun o=>if fS ss o then none else o.dst
def Dy (ss:Specs) (ops:Array Oper) (S:St):St:=gu S.clean ((sM ss ops).map fun d=>(d,.any))
def iA (P:Program) (ss:Specs) (ops:Array Oper):List Oper->Nat->St->List (Option (Nat×AV))->Option (List Prop×List St×List (Option (Nat×AV)))
 | [],_,S,ent=>some ([],[S],ent)
 | o::os,i,S,ent =>
  if fS ss o then match KE P ss (gu S (dg (dD ops i) 0 ent)) o with
   | some (ps,T)=>(match iA P ss ops os (i+1) (Dy ss ops T) (ent++[none]) with
    | some (qs,Ss,ent')=>some (ps++qs,S::Ss,ent')
    | none=>none)
   | none=>none
  else match EN P ss (gu S (dg (dD ops i) 0 ent)) [] o,o.dst with
   | some (ps,r),some d=>(match iA P ss ops os (i+1) S (ent++[some (d,r.opn [])]) with
    | some (qs,Ss,ent')=>some (ps++qs,Ss,ent')
    | none=>none)
   | _,_=>none
def ec (ss:Specs) (ops:Array Oper) (i:Nat):Nat:=((ops.toList.take i).filter (fS ss)).length
def FG (ss:Specs) (ops:Array Oper) (j m:Nat):Bool :=
 (List.range ops.size).all fun e=>match ops[e]? with
  | some o=>!fS ss o||(if m<=ec ss ops e then !dD ops j e else !dD ops e j)
  | none=>true
def H6 (P:Program) (ss:Specs) (ops:Array Oper) (Ss:List St) (ent:List (Option (Nat×AV))) (j:Nat) (o:Oper) (r:AV):List Nat->Option (List Prop)
 | []=>some []
 | m::ms=>if Nat.beq m (ec ss ops j)||!FG ss ops j m then H6 P ss ops Ss ent j o r ms else
   match Ss[m]? with
   | none=>none
   | some S=>match EN P ss (gu S (dg (dD ops j) 0 ent)) [] o with
    | none=>none
    | some (qs,r')=>match jC (r'.opn []) r,H6 P ss ops Ss ent j o r ms with
     | some es,some rest=>some (qs++es++rest)
     | _,_=>none
def H7 (P:Program) (ss:Specs) (ops:Array Oper) (Ss:List St) (ent:List (Option (Nat×AV))):List Oper->Nat->Option (List Prop)
 | [],_=>some []
 | o::os,j=>match ent[j]? with
  | some (some (_,r))=>(match H6 P ss ops Ss ent j o r (List.range Ss.length),H7 P ss ops Ss ent os (j+1) with
   | some p,some q=>some (p++q)
   | _,_=>none)
  | _=>H7 P ss ops Ss ent os (j+1)
def vZ (d:Nat):AV->Bool
 | .own n=>!Nat.beq (n % 1000000) d
 | .mp n=>!Nat.beq (n % 1000000) d
 | .loc n _=>!Nat.beq (n % 1000000) d
 | .el n _ _ _=>!Nat.beq (n % 1000000) d
 | .osl n _ _ _=>!Nat.beq (n % 1000000) d
 | .psl n _ _=>!Nat.beq (n % 1000000) d
 | .fn _ c1 c2=>(c1.all fun x=>!Nat.beq (x.1 % 1000000) d)&&(c2.all fun x=>!Nat.beq (x.1 % 1000000) d)
 | .pair a b=>vZ d a&&vZ d b
 | .tup a b=>vZ d a&&vZ d b
 | .gd ..=>false
 | _=>true
def Nn (ss:Specs) (ops:Array Oper) (n:Nat) (Ss:List St) (ent:List (Option (Nat×AV))):Bool :=
 ((List.range ops.size).all fun i=>match ops[i]? with
  | some o=>xg ss ops ops.size i o&&o.guard.isNone&&(match o.dst with
    | some d=>Nat.blt d n&&Nat.blt d 1000000
    | none=>true) &&
   (!fS ss o||((List.range i).all fun e=>match ops[e]? with
    | some oe=>!fS ss oe||dD ops i e
    | none=>true)&&(List.range ent.length).all fun j=>dD ops j i||match ent[j]? with
     | some (some (_,r))=>(match o.dst with
      | some d=>vZ d r
      | none=>r.noGd)
     | _=>true)
  | none=>false) &&
 fM (ops.toList.filterMap (·.dst))&&Ss.all (fun S=>Nat.beq S.n n)
def Ch (ops:Array Oper):Nat->Nat
 | 0=>0
 | n+1=>if (List.range n).all (fun j=>((eI ops).getD n 0).testBit j) then Ch ops n else n+1
def L8 (ops:Array Oper) (k:Nat):Bool :=
 (List.range ops.size).all fun i=>match ops[i]? with
  | some o=>(bi o).all (fun e=>Nat.blt e i)&&(Nat.blt i k||(List.range i).all (fun j=>((eI ops).getD i 0).testBit j))
  | none=>false
def I5 (P:Program) (ss:Specs) (ops:Array Oper) (k:Nat) (hd:Array Oper) (S:St):Option (List Prop×St) :=
 match iA P ss hd hd.toList 0 (Dy ss hd S) [] with
 | some (ps,Ss,ent)=>(match H7 P ss hd Ss ent hd.toList 0,Ss.getLast? with
  | some qs,some Sr=>if P.follows .mixedOrders&&Nn ss hd S.n Ss ent&&Nat.beq Ss.length (ec ss hd hd.size+1)&&(Nat.ble k ops.size&&L8 ops k) then
    (match run P ss ops (ops.toList.drop k) (gu Sr (dg (fun _=>true) 0 ent)) with
    | some (qs2,S2)=>some (ps++(qs++qs2),S2)
    | none=>none) else none
  | _,_=>none)
 | none=>none
def wE (P:Program) (ss:Specs) (ops:Array Oper) (S:St):Option (List Prop×St):=I5 P ss ops (Ch ops ops.size) (ops.toList.take (Ch ops ops.size)).toArray S
section
variable {M:Nat->Prop} {p0:PH} {w0:World} {P:Program} {ss:Specs} {ops:Array Oper} {Q:Exit->Act->World->Prop}
theorem EH {d:Nat}:∀ (x:AV),vZ d x=true->(∀ k,Nat.beq (k % 1000000) d=true->x.scrub (fun y=>Nat.beq y k)=x)/\x.noGd=true:=by
 have key:∀ n k:Nat,(!Nat.beq (n % 1000000) d)=true->Nat.beq (k % 1000000) d=true->Nat.beq n k=false:=by
  intro n k h1 h2;apply dH;rintro rfl;rw [h2] at h1;cases h1
 intro x
 induction x with
 | own n=>intro h; exact ⟨fun k hk=>by simp only [AV.scrub,key n k h hk,NK],rfl⟩
 | mp n=>intro h; exact ⟨fun k hk=>by simp only [AV.scrub,key n k h hk,NK],rfl⟩
 | loc n o=>intro h; exact ⟨fun k hk=>by simp only [AV.scrub,key n k h hk,NK],rfl⟩
 | el n T i o=>intro h; exact ⟨fun k hk=>by simp only [AV.scrub,key n k h hk,NK],rfl⟩
 | osl n T i m=>intro h; exact ⟨fun k hk=>by simp only [AV.scrub,key n k h hk,NK],rfl⟩
 | psl n i m=>intro h; exact ⟨fun k hk=>by simp only [AV.scrub,key n k h hk,NK],rfl⟩
 | fn f c1 c2 =>
  intro h;simp only [vZ,NA] at h;refine ⟨fun k hk=>?_,rfl⟩
  have a1:(c1.any fun x=>Nat.beq x.1 k)=false:=by
   rw [PR];intro y hy;rw [key _ _ (NH.1 h.1 y hy) hk];simp
  have a2:(c2.any fun x=>Nat.beq x.1 k)=false:=by
   rw [PR];intro y hy;rw [key _ _ (NH.1 h.2 y hy) hk];simp
  simp only [AV.scrub,a1,a2,O2,NK]
 | pair a b iha ihb =>
  intro h;simp only [vZ,NA] at h;exact ⟨fun k hk=>by simp only [AV.scrub,(iha h.1).1 k hk,(ihb h.2).1 k hk],rfl⟩
 | tup a b iha ihb =>
  intro h;simp only [vZ,NA] at h;exact ⟨fun k hk=>by simp only [AV.scrub,(iha h.1).1 k hk,(ihb h.2).1 k hk],rfl⟩
 | gd g w a _=>intro h; cases h
 | _=>intro _; exact ⟨fun _ _=>rfl,rfl⟩
def vd (ent:List (Option (Nat×AV))):Prop:=∀ (i j s:Nat) (a b:AV),ent[i]?=some (some (s,a))->ent[j]?=some (some (s,b))->i=j
theorem kl (L:Nat->Bool) (s:Nat):∀ (ent:List (Option (Nat×AV))) (n:Nat),(∀ (j:Nat) a,ent[j]?≠some (some (s,a)))->lk (dg L n ent) s=none
 | [],_,_=>rfl
 | none::es,n,h=>kl L s es (n+1) (fun j a=>by simpa using h (j+1) a)
 | some (d,a)::es,n,h=>by
  have hne:s≠d:=by
   rintro rfl;exact h 0 a (by simp)
  simp only [dg,lk,dH hne,NK];exact kl L s es (n+1) (fun j a=>by simpa using h (j+1) a)
theorem uf (L:Nat->Bool):∀ (ent:List (Option (Nat×AV))) (n j s:Nat) (a:AV),vd ent->ent[j]?=some (some (s,a))->lk (dg L n ent) s=some (bif L (n+j) then a else .any)
 | [],_,_,_,_,_,h=>by simp at h
 | none::es,n,j,s,a,ho,h=>by
  cases j with
  | zero=>simp at h
  | succ j =>
   have ho':vd es:=fun i k s a b h1 h2=>by
    have:=ho (i+1) (k+1) s a b (by simpa using h1) (by simpa using h2);omega
   have:=uf L es (n+1) j s a ho' (by simpa using h);simp only [dg];rw [this,show n+1+j=n+(j+1) by omega]
 | some (d,b)::es,n,j,s,a,ho,h=>by
  cases j with
  | zero =>
   simp only [List.getElem?_cons_zero,Jg,Ny] at h;obtain ⟨rfl,rfl⟩:=h;simp only [dg,lk,Nat.beq_refl,N2,OW]
  | succ j =>
   have hne:s≠d:=by
    rintro rfl;have:=ho 0 (j+1) s b a (by simp) h;omega
   have ho':vd es:=fun i k s a b h1 h2=>by
    have:=ho (i+1) (k+1) s a b (by simpa using h1) (by simpa using h2);omega
   have:=uf L es (n+1) j s a ho' (by simpa using h);simp only [dg,lk,dH hne,NK];rw [this,show n+1+j=n+(j+1) by omega]
theorem su {ent:List (Option (Nat×AV))} (ho:vd ent) (L:Nat->Bool) (S:St) {j s:Nat} {a:AV} (h:ent[j]?=some (some (s,a))):(gu S (dg L 0 ent)).env s=bif L j then a else .any:=by
 have:=uf L ent 0 j s a ho h;rw [Ox] at this;simp only [gu,this]
theorem dq {ent:List (Option (Nat×AV))} (L:Nat->Bool) (S:St) {s:Nat} (h:∀ (j:Nat) a,ent[j]?≠some (some (s,a))):(gu S (dg L 0 ent)).env s=S.env s:=by
 simp only [gu,kl L s ent 0 h]
theorem JF:∀ (l:List Nat) (s:Nat),lk (l.map fun d=>(d,AV.any)) s=if l.contains s then some .any else none
 | [],s=>rfl
 | d::l,s=>by
  simp only [Oi,lk];by_cases h:s=d
  ·subst h; simp
  ·rw [dH h,NK,JF l s];simp [h]
theorem sA (S:St) (s:Nat):(Dy ss ops S).env s=if (sM ss ops).contains s then .any else S.clean.env s:=by
 unfold Dy;simp only [gu,JF];by_cases h:(sM ss ops).contains s=true
 ·rw [if_pos h,if_pos h]
 ·rw [if_neg h,if_neg h]
theorem IB (S:St) (s:Nat):((Dy ss ops S).env s).noGd=true:=by
 rw [sA];split
 ·rfl
 ·exact cd _ _
theorem F3 {i j:Nat} (h:i<=j):ec ss ops i<=ec ss ops j:=by
 unfold ec;have:(ops.toList.take i)=(ops.toList.take j).take i:=by rw [O4,OV h]
 rw [this];exact ((List.take_sublist i (ops.toList.take j)).filter _).length_le
theorem ly {i:Nat} {o:Oper} (ho:ops[i]?=some o):ec ss ops (i+1)=ec ss ops i+(if fS ss o=true then 1 else 0):=by
 have his:i<ops.toList.length:=by
  rcases NW i ops.toList.length with h | h
  ·exact h
  ·rw [Array.getElem?_eq_none (by simpa using h)] at ho; cases ho
 have ho':ops.toList[i]=o:=by
  have:ops.toList[i]?=some o:=by simpa using ho
  rw [List.getElem?_eq_getElem his] at this;injection this
 unfold ec;rw [Ol his,PO,NE,ho'];by_cases h:fS ss o=true
 ·rw [if_pos h,Ov h]; rfl
 ·rw [if_neg h,OO h]; rfl
theorem jr:∀ (os:List Oper) (i:Nat) (S:St) (ent:List (Option (Nat×AV))) (ps:List Prop) (Ss:List St) (ent':List (Option (Nat×AV))),iA P ss ops os i S ent=some (ps,Ss,ent')->os=ops.toList.drop i->i<=ops.size->ent.length=i ->
  ent'.length=ops.size/\ent'.take i=ent/\Ss[0]?=some S/\∀ (j:Nat) o,i<=j->ops[j]?=some o->∃ Sj,Ss[ec ss ops j - ec ss ops i]?=some Sj /\
   (fS ss o=true->ent'[j]?=some none/\∃ qs T,KE P ss (gu Sj (dg (dD ops j) 0 (ent'.take j))) o=some (qs,T)/\(∀ q∈qs,q∈ps)/\Ss[ec ss ops j+1 - ec ss ops i]?=some (Dy ss ops T)) /\
   (fS ss o=false->∃ qs r d,ent'[j]?=some (some (d,r.opn []))/\o.dst=some d/\EN P ss (gu Sj (dg (dD ops j) 0 (ent'.take j))) [] o=some (qs,r)/\∀ q∈qs,q∈ps)
 | [],i,S,ent,ps,Ss,ent',h,hos,hi,hl=>by
  simp only [iA,Jg,Ny] at h;obtain ⟨rfl,rfl,rfl⟩:=h
  have:ops.size<=i:=by
   have:=congrArg List.length hos;simp at this;omega
  refine ⟨by omega,by rw [NP (by omega)],rfl,fun j o hj ho=>?_⟩;rw [Array.getElem?_eq_none (by omega)] at ho;cases ho
 | o::os,i,S,ent,ps,Ss,ent',h,hos,hi,hl=>by
  have his:i<ops.size:=by
   rcases NW i ops.size with h | h
   ·exact h
   ·rw [Pe (by simpa using h)] at hos; cases hos
  have hdr:ops.toList.drop i=ops.toList[i]'(by simpa using his)::ops.toList.drop (i+1):=OH (by simpa using his);rw [hdr] at hos;injection hos with ho hos
  have ho:ops[i]?=some o:=by rw [ho]; simp [his]
  unfold iA at h
  have up:∀ (Si:St) (x:Option (Nat×AV)) (qs:List Prop) (Ss1:List St),iA P ss ops os (i+1) Si (ent++[x])=some (qs,Ss1,ent')->ent'.length=ops.size/\ent'.take i=ent/\ent'[i]?=some x:=by
   intro Si x qs Ss1 hr;obtain ⟨k1,k2,_⟩:=jr os (i+1) Si (ent++[x]) qs Ss1 ent' hr hos (by omega) (by simp [hl]);refine ⟨k1,?_,?_⟩
   ·have:=congrArg (List.take i) k2;rw [O4,OV (by omega),N6 (by omega),NP (l:=ent) (by omega)] at this;exact this
   ·have:=congrArg (fun l=>l[i]?) k2;simp only [List.getElem?_take] at this;rw [if_pos (by omega),List.getElem?_append_right (by omega)] at this;simpa [hl] using this
  split at h
  ·rename_i hu;split at h <;> try cases h
   rename_i ps1 T hev;split at h <;> simp only [Jg,Ny,reduceCtorEq] at h;rename_i qs Ss1 ent1 hr;obtain ⟨rfl,rfl,rfl⟩:=h;obtain ⟨k1,k2,k3⟩:=up _ _ _ _ hr;obtain ⟨_,_,g3,g4⟩:=jr os (i+1) _ (ent++[none]) qs Ss1 ent1 hr hos (by omega) (by simp [hl]);have he1:ec ss ops (i+1)=ec ss ops i+1:=by rw [ly ho,if_pos hu]
   refine ⟨k1,k2,rfl,fun j oj hj hoj=>?_⟩;by_cases hji:j=i
   ·subst hji;rw [ho] at hoj;injection hoj with hoj
    subst hoj;refine ⟨S,by rw [P7]; rfl,fun _=>⟨k3,ps1,T,by rw [k2]; exact hev,fun q hq=>ND _ hq,?_⟩,fun h=>by rw [hu] at h; cases h⟩;rw [show ec ss ops j+1 - ec ss ops j=0+1 by omega,List.getElem?_cons_succ];exact g3
   ·have hle:=F3 (ss:=ss) (ops:=ops) (show i+1<=j by omega);obtain ⟨Sj,q1,q2,q3⟩:=g4 j oj (by omega) hoj;refine ⟨Sj,?_,fun hu'=>?_,fun hu'=>?_⟩
    ·rw [show ec ss ops j - ec ss ops i=(ec ss ops j - ec ss ops (i+1))+1 by omega,List.getElem?_cons_succ];exact q1
    ·obtain ⟨a1,qs',T',a2,a3,a4⟩:=q2 hu';refine ⟨a1,qs',T',a2,fun q hq=>NF _ (a3 q hq),?_⟩;rw [show ec ss ops j+1 - ec ss ops i=(ec ss ops j+1 - ec ss ops (i+1))+1 by omega,List.getElem?_cons_succ];exact a4
    ·obtain ⟨qs',r,d,a1,a2,a3,a4⟩:=q3 hu';exact ⟨qs',r,d,a1,a2,a3,fun q hq=>NF _ (a4 q hq)⟩
  ·rename_i hu;have hu:fS ss o=false:=by simpa using hu
   split at h <;> try cases h
   rename_i ps1 r d hev hd;split at h <;> simp only [Jg,Ny,reduceCtorEq] at h;rename_i qs Ss1 ent1 hr;obtain ⟨rfl,rfl,rfl⟩:=h;obtain ⟨k1,k2,k3⟩:=up _ _ _ _ hr;obtain ⟨_,_,g3,g4⟩:=jr os (i+1) _ (ent++[some (d,r.opn [])]) qs Ss1 ent1 hr hos (by omega) (by simp [hl]);have he1:ec ss ops (i+1)=ec ss ops i:=by rw [ly ho,if_neg (by rw [hu]; simp)]; rfl
   refine ⟨k1,k2,g3,fun j oj hj hoj=>?_⟩;by_cases hji:j=i
   ·subst hji;rw [ho] at hoj;injection hoj with hoj
    subst hoj;refine ⟨S,by rw [P7]; exact g3,fun h=>(by rw [hu] at h; cases h),fun _=>⟨ps1,r,d,k3,hd,by rw [k2]; exact hev,fun q hq=>ND _ hq⟩⟩
   ·obtain ⟨Sj,q1,q2,q3⟩:=g4 j oj (by omega) hoj;rw [he1] at q1 q2;refine ⟨Sj,q1,fun hu'=>?_,fun hu'=>?_⟩
    ·obtain ⟨a1,qs',T',a2,a3,a4⟩:=q2 hu';exact ⟨a1,qs',T',a2,fun q hq=>NF _ (a3 q hq),a4⟩
    ·obtain ⟨qs',r',d',a1,a2,a3,a4⟩:=q3 hu';exact ⟨qs',r',d',a1,a2,a3,fun q hq=>NF _ (a4 q hq)⟩
theorem qN {Ss:List St} {ent:List (Option (Nat×AV))} {j:Nat} {o:Oper} {r:AV}:∀ (ms:List Nat) (ps:List Prop),H6 P ss ops Ss ent j o r ms=some ps->(∀ q∈ps,q)->∀ m∈ms,m≠ec ss ops j->FG ss ops j m=true ->
  ∃ S qs r',Ss[m]?=some S/\EN P ss (gu S (dg (dD ops j) 0 ent)) [] o=some (qs,r')/\r'.opn []=r/\∀ q∈qs,q
 | [],_,_,_,m,hm,_,_=>by cases hm
 | m0::ms,ps,h,hp,m,hm,hne,hpm=>by
  unfold H6 at h;split at h
  ·rename_i hc;rcases NG.1 hm with rfl | hm
   ·exfalso;rw [dH hne,hpm] at hc;simp at hc
   ·exact qN ms ps h hp m hm hne hpm
  ·split at h <;> try cases h
   rename_i S hS;split at h <;> try cases h
   rename_i qs r' hev;split at h <;> simp only [Jg,reduceCtorEq] at h;rename_i es rest he hrest;subst h;rcases NG.1 hm with rfl | hm
   ·exact ⟨S,qs,r',hS,hev,EO _ _ es he (fun q hq=>hp q (ND _ (NF _ hq))),fun q hq=>hp q (ND _ (ND _ hq))⟩
   ·exact qN ms rest hrest (fun q hq=>hp q (NF _ hq)) m hm hne hpm
theorem qO {Ss:List St} {ent:List (Option (Nat×AV))}:∀ (os:List Oper) (i:Nat) (ps:List Prop),H7 P ss ops Ss ent os i=some ps->(∀ q∈ps,q)->∀ (j:Nat) o d r,os[j]?=some o->ent[i+j]?=some (some (d,r)) ->
  ∃ qs,H6 P ss ops Ss ent (i+j) o r (List.range Ss.length)=some qs/\∀ q∈qs,q
 | [],_,_,_,_,j,o,d,r,ho,_=>by simp at ho
 | o0::os,i,ps,h,hp,j,o,d,r,ho,he=>by
  unfold H7 at h;cases j with
  | zero =>
   simp only [List.getElem?_cons_zero,Jg] at ho;subst ho;rw [OW] at he |-;rw [he] at h;simp only at h;split at h <;> simp only [Jg,reduceCtorEq] at h;rename_i p q h1 h2;subst h;exact ⟨p,h1,fun x hx=>hp x (ND _ hx)⟩
  | succ j =>
   have ho':os[j]?=some o:=by simpa using ho
   have he':ent[i+1+j]?=some (some (d,r)):=by rw [show i+1+j=i+(j+1) by omega]; exact he
   rw [show i+(j+1)=i+1+j by omega];split at h
   ·split at h <;> simp only [Jg,reduceCtorEq] at h;rename_i p q h1 h2;subst h;exact qO os (i+1) q h2 (fun x hx=>hp x (NF _ hx)) j o d r ho' he'
   ·exact qO os (i+1) ps h hp j o d r ho' he'
structure Graph (P:Program) (ss:Specs) (ops:Array Oper) (n:Nat) (Ss:List St) (ent:List (Option (Nat×AV))):Prop where
 size:ent.length=ops.size
 len:Ss.length=ec ss ops ops.size+1
 sn:∀ (m:Nat) S,Ss[m]?=some S->S.n=n
 noGd:∀ (m:Nat) S,Ss[m]?=some S->∀ s,(S.env s).noGd=true
 free:∀ (m:Nat) S,Ss[m]?=some S->∀ (j d:Nat) (r:AV),ent[j]?=some (some (d,r))->S.env d=.any
 once:vd ent
 dist:∀ (i j:Nat) (oi oj:Oper) (d:Nat),ops[i]?=some oi->ops[j]?=some oj->oi.dst=some d->oj.dst=some d->i=j
 ok:∀ (i:Nat) o,ops[i]?=some o->xg ss ops ops.size i o=true/\o.guard=none/\∀ d,o.dst=some d->d<n/\d<1000000
 value:∀ (j:Nat) o,ops[j]?=some o->fS ss o=false->∃ d r,ent[j]?=some (some (d,r))/\r.noGd=true/\o.dst=some d/\∀ m S,Ss[m]?=some S->FG ss ops j m=true->∃ qs r',EN P ss (gu S (dg (dD ops j) 0 ent)) [] o=some (qs,r')/\r'.opn []=r/\∀ q∈qs,q
 turn:∀ (j:Nat) o,ops[j]?=some o->fS ss o=true->ent[j]?=some none/\∃ S qs T,Ss[ec ss ops j]?=some S/\KE P ss (gu S (dg (dD ops j) 0 ent)) o=some (qs,T)/\(∀ q∈qs,q)/\Ss[ec ss ops j+1]?=some (Dy ss ops T)
 order:∀ (i e:Nat) oi oe,ops[i]?=some oi->ops[e]?=some oe->fS ss oi=true->fS ss oe=true->e<i->dD ops i e=true
 fixed:∀ (i:Nat) oi,ops[i]?=some oi->fS ss oi=true->∀ (j d:Nat) (r:AV),ent[j]?=some (some (d,r))->dD ops j i=false->(∀ k,Ew oi k=true->r.scrub (fun y=>Nat.beq y k)=r)/\r.noGd=true
theorem Graph.edge {n:Nat} {Ss:List St} {ent:List (Option (Nat×AV))} (G:Graph P ss ops n Ss ent):∀ (i:Nat) o,ops[i]?=some o->∀ e∈bi o,e<i:=fun i o ho e he=>(ld (G.ok i o ho).1).1 e he
theorem Graph.look {n:Nat} {Ss:List St} {ent:List (Option (Nat×AV))} (G:Graph P ss ops n Ss ent) (S:St) {L L':Nat->Bool} {i:Nat} {o:Oper} (ho:ops[i]?=some o) (hL:∀ e∈bi o,L e=true) (hL':∀ e∈bi o,L' e=true) :
  ∀ x∈o.op.operands,(gu S (dg L 0 ent)).val x=(gu S (dg L' 0 ent)).val x:=by
 intro x hx;obtain ⟨_,h2⟩:=ld (G.ok i o ho).1;cases x with
 | tmp t =>
  simp only [St.val];by_cases hk:∃ (j:Nat) (a:AV),ent[j]?=some (some ((t:Nat),a))
  ·obtain ⟨j,a,hj⟩:=hk
   have hjs:j<ops.size:=by
    rcases NW j ent.length with h | h
    ·rw [<- G.size]; exact h
    ·rw [List.getElem?_eq_none h] at hj; cases hj
   have hoj:ops[j]?=some ops[j]:=by simp [hjs]
   have hu:fS ss ops[j]=false:=by
    cases hu:fS ss ops[j]
    ·rfl
    ·have:=(G.turn j _ hoj hu).1;rw [hj] at this;cases this
   have hd:ops[j].dst=some t:=by
    obtain ⟨d,r,k1,_,k2,_⟩:=G.value j _ hoj hu;rw [hj] at k1;injection k1 with k1
    injection k1 with k1
    injection k1 with k1 _
    subst k1;exact k2
   have hje:=h2 t hx j _ hjs hoj hu hd;rw [su G.once L S hj,su G.once L' S hj,hL j hje,hL' j hje]
  ·have hk':∀ (j:Nat) a,ent[j]?≠some (some (t,a)):=fun j a e=>hk ⟨j,a,e⟩
   rw [dq L S hk',dq L' S hk']
 | const v=>rfl
 | func f=>rfl
 | global g=>rfl
theorem FI (f:Nat->Nat) (j:Nat):∀ (es:List Nat) (m:Nat),(j∈es\/m.testBit j=true)->(es.foldl (fun m e=>m ||| (1 <<< e) ||| f e) m).testBit j=true
 | [],m,h=>by
  rcases h with h | h
  ·cases h
  ·exact h
 | e::es,m,h=>by
  refine FI f j es _ ?_;rcases h with h | h
  ·rcases NG.1 h with rfl | h
   ·right;simp [Nat.testBit_or,Nat.one_shiftLeft]
   ·exact .inl h
  ·right;simp [Nat.testBit_or,h]
theorem Da {i:Nat} {o:Oper} (ho:ops[i]?=some o):∀ e∈bi o,dD ops i e=true:=by
 intro e he;obtain ⟨new,h1,h2,h3⟩:=ny ops.toList [];have h4:=h3 i o (by simpa using ho);simp only [Oa] at h4 h1;unfold dD eI;rw [h1,List.getD_eq_getElem?_getD,h4];exact FI _ e _ _ (.inl he)
theorem Mp {x:AV} (h:x.noGd=true):x.opn []=x:=by cases x <;> first | (cases h; done) | rfl
theorem Db {n:Nat} {Ss:List St} {ent:List (Option (Nat×AV))} (_:Graph P ss ops n Ss ent) {i:Nat} {o:Oper} (ho:ops[i]?=some o):∀ e∈bi o,dD ops i e=true:=by
 intro e he;exact Da ho e he
theorem MZ (hss:ss.okA P M w0) {hd:Array Oper} {n:Nat} {Ss:List St} {ent:List (Option (Nat×AV))} (G:Graph P ss hd n Ss ent) (hks:hd.size<=ops.size) (hhd:∀ i,i<hd.size->ops[i]?=hd[i]?) (hedge:∀ (i:Nat) o,ops[i]?=some o->∀ e∈bi o,e<i)
  (htail:∀ (i:Nat) o,hd.size<=i->ops[i]?=some o->∀ j,j<i->((eI ops).getD i 0).testBit j=true) {ds:List Deferred} {Sr:St} (hSr:Ss[ec ss hd hd.size]?=some Sr)
  (hrest:∀ a w,Sat M p0 w0 (gu Sr (dg (fun _=>true) 0 ent)) a.tmps w->a.defers=ds->wpList P ops Q (ops.toList.drop hd.size) a w) :
  ∀ (fuel:Nat) (listed:Array Bool) (a:Act) (w:World) (m:Nat) (S:St),listed.size=ops.size->z6 listed ops.size<=fuel->Fb ops (fun j=>listed.getD j true)->(∀ i o,hd[i]?=some o->fS ss o=true->listed.getD i true=decide (ec ss hd i<m))->m<=ec ss hd hd.size->Ss[m]?=some S->(∀ j,hd.size<=j->j<ops.size->listed.getD j true=false) ->
   Sat M p0 w0 (gu S (dg (fun j=>listed.getD j true) 0 ent)) a.tmps w->a.defers=ds->wpAny P .any ops Q fuel listed a w:=by
 have sizeOf:∀ (i:Nat) o,hd[i]?=some o->i<hd.size:=by
  intro i o ho;rcases NW i hd.size with h | h
  ·exact h
  ·rw [Array.getElem?_eq_none h] at ho; cases ho
 have liftO:∀ (i:Nat) o,hd[i]?=some o->ops[i]?=some o:=fun i o ho=>by rw [hhd i (sizeOf i o ho)]; exact ho
 have ofWait:∀ (listed:Array Bool),Fb ops (fun j=>listed.getD j true)->∀ (i:Nat) o,hd[i]?=some o->(∀ e∈bi o,listed.getD e true=true)->∀ j,dD hd i j=true->listed.getD j true=true:=by
  intro listed hD i o ho he j hj;have hin:=ky (ops:=hd) (L:=fun j=>j<hd.size/\listed.getD j true=true) (fun i oi hi hoi e hee=>⟨by have:=G.edge i oi hoi e hee; omega,hD i oi hi.2 (liftO i oi hoi) e hee⟩) (fun i hi=>hi.1) i o ho (fun e hee=>⟨by have:=G.edge i o ho e hee; have:=sizeOf i o ho; omega,he e hee⟩) j hj;exact hin.2
 have fin:∀ (fuel:Nat) (listed:Array Bool) (a:Act) (w:World) (m:Nat) (S:St),listed.size=ops.size->z6 listed ops.size<=fuel->(∀ j,hd.size<=j->j<ops.size->listed.getD j true=false)->(∀ j,j<hd.size->listed.getD j true=true)->(∀ i o,hd[i]?=some o->fS ss o=true->listed.getD i true=decide (ec ss hd i<m))->m<=ec ss hd hd.size->Ss[m]?=some S ->
   Sat M p0 w0 (gu S (dg (fun j=>listed.getD j true) 0 ent)) a.tmps w->a.defers=ds->wpAny P .any ops Q fuel listed a w:=by
  intro fuel listed a w m S hsz hc hT hall hE hm hSm hS hds
  have hmr:m=ec ss hd hd.size:=by
   rcases NW m (ec ss hd hd.size) with hlt | hge
   ·exfalso
    have:∀ k,k<=hd.size->ec ss hd k<=m:=by
     intro k
     induction k with
     | zero=>intro _; simp [ec]
     | succ k ih =>
      intro hk;have ho:hd[k]?=some hd[k]:=by simp [show k<hd.size by omega]
      have h1:=ih (by omega);rw [ly ho];split
      ·rename_i hu;have h2:=hE k _ ho hu;rw [hall k (by omega)] at h2;have:=Nw h2.symm;omega
      ·omega
    have:=this hd.size (NR _);omega
   ·omega
  subst hmr;rw [hSr] at hSm;injection hSm with hSm
  subst hSm;have hcg:=EY (listed:=listed) (k:=hd.size) ops.size hT;refine Gz hedge htail fuel hd.size listed a w (by omega) (NR _) hsz (fun j hj=>?_) (hrest a w (hS.congrE ?_ rfl rfl) hds)
  ·by_cases hjk:j<hd.size
   ·rw [hall j hjk,OI hjk]
   ·rw [hT j (by omega) hj,OP hjk]
  funext s;by_cases hk:∃ (j:Nat) (b:AV),ent[j]?=some (some (s,b))
  ·obtain ⟨j,b,hj⟩:=hk
   have hjs:j<hd.size:=by
    rcases NW j ent.length with h | h
    ·rw [<- G.size]; exact h
    ·rw [List.getElem?_eq_none h] at hj; cases hj
   rw [su G.once _ _ hj,su G.once _ _ hj,hall j hjs]
  ·have hk':∀ (j:Nat) a,ent[j]?≠some (some (s,a)):=fun j a e=>hk ⟨j,a,e⟩
   rw [dq _ _ hk',dq _ _ hk']
 intro fuel
 induction fuel with
 | zero =>
  intro listed a w m S hsz hc hD hE hm hSm hT hS hds;have hall:=uY (listed:=listed) ops.size (by omega);exact fin 0 listed a w m S hsz hc hT (fun j hj=>hall j (by omega)) hE hm hSm hS hds
 | succ fuel ih =>
  intro listed a w m S hsz hc hD hE hm hSm hT hS hds;by_cases hopen:∃ j,j<hd.size/\listed.getD j true=false;rotate_left
  ·refine fin (fuel+1) listed a w m S hsz hc hT (fun j hj=>?_) hE hm hSm hS hds;cases hb:listed.getD j true
   ·exact absurd ⟨j,hj,hb⟩ hopen
   ·rfl
  obtain ⟨i0,hi0,hi0l,hi0a⟩:=nQ hd.size hopen;refine ⟨fun h0=>?_,fun i hi=>?_⟩
  ·exfalso;have ho:ops[i0]?=some ops[i0]:=by simp [show i0<ops.size by omega]
   have:i0∈Region.ready .any ops listed:=dJ.2 ⟨by omega,hi0l,_,ho,fun e he=>by
    have:=hedge i0 _ ho e he;rw [jb (by omega)];exact hi0a e this⟩
   rw [h0] at this;cases this
  ·obtain ⟨h1,h2,o,hoo,h3⟩:=dJ.1 hi
   have hik:i<hd.size:=by
    rcases NW i hd.size with h | h
    ·exact h
    ·exfalso;have hw:=htail i o h hoo i0 (by omega)
     have he3:∀ e∈bi o,listed.getD e true=true:=fun e he=>by
      have he':=h3 e he;have hes:e<listed.size:=by have:=hedge i o hoo e he; omega
      rw [<- jb hes];exact he'
     have hin:=ky (ops:=ops) (L:=fun j=>j<ops.size/\listed.getD j true=true) (fun i oi hi hoi e hee=>⟨by have:=hedge i oi hoi e hee; omega,hD i oi hi.2 hoi e hee⟩) (fun i hi=>hi.1) i o hoo (fun e hee=>⟨by have:=hedge i o hoo e hee; omega,he3 e hee⟩) i0 hw;rw [hi0l] at hin;exact absurd hin.2 (by simp)
   have ho:hd[i]?=some o:=by rw [<- hhd i hik]; exact hoo
   have h3':∀ e∈bi o,listed.getD e true=true:=fun e he=>by
    have he':=h3 e he
    have hes:e<listed.size:=by
     rcases NW e listed.size with h | h
     ·exact h
     ·simp [h] at he'
    rw [<- jb hes];exact he'
   have hsz':(listed.setIfInBounds i true).size=ops.size:=by simpa using hsz
   have hT':∀ j,hd.size<=j->j<ops.size->(listed.setIfInBounds i true).getD j true=false:=fun j hj hjs=>by
    rw [jz,hT j hj hjs,dH (by omega)]; rfl
   have hc':z6 (listed.setIfInBounds i true) ops.size<=fuel:=by
    have:=(zL h2 ops.size).2 h1;omega
   have hLs:∀ j,(listed.setIfInBounds i true).getD j true=(listed.getD j true||Nat.beq j i):=fun j=>jz
   have hD':Fb ops (fun j=>(listed.setIfInBounds i true).getD j true):=by
    intro j oj hj hoj e he;simp only [hLs,Oj] at hj |-;rcases hj with hj | hj
    ·exact .inl (hD j oj hj hoj e he)
    ·have:=Nz hj;subst this;rw [hoo] at hoj;injection hoj with hoj
     subst hoj;exact .inl (h3' e he)
   obtain ⟨_,hguard,hdlt⟩:=G.ok i o ho;have hwant:Region.wanted o (yielded ops a.tmps)=true:=by simp [Region.wanted,hguard]
   have hwe:=Db G ho;cases hu:fS ss o
   ·
    obtain ⟨d,r,hent,hrg,hdst,hval⟩:=G.value i o ho hu
    have hperm:FG ss hd i m=true:=by
     refine NH.2 fun e he=>?_
     have hes:e<hd.size:=by simpa using he
     have hoe:hd[e]?=some hd[e]:=by simp [hes]
     rw [hoe];simp only;cases hue:fS ss hd[e]
     ·rfl
     ·simp only [PK,Pt];have hle:=hE e _ hoe hue;split
      ·rename_i hme;rw [OP (by omega)] at hle;cases hw:dD hd i e
       ·rfl
       ·have:=ofWait listed hD i o ho h3' e hw;rw [hle] at this;cases this
      ·rename_i hme;rw [OI (by omega)] at hle;cases hw:dD hd e i
       ·rfl
       ·have:=ofWait listed hD e _ hoe (fun e' he'=>hD e _ hle (liftO e _ hoe) e' he') i hw;rw [h2] at this;cases this
    obtain ⟨qs,r',hev,hr,hq⟩:=hval m S hSm hperm
    have hl:EN P ss (gu S (dg (fun j=>listed.getD j true) 0 ent)) [] o=some (qs,r'):=by
     rw [<- hev];exact qJ rfl (G.look S ho h3' hwe)
    obtain ⟨p,β,hB⟩:=hS;unfold wpOp;rw [hoo];simp only;rw [if_pos hwant];refine .inl (jm hB hss (aI _) hl hq _ Q (fun v w' p' hS' hle hrv=>?_));rw [hdst];have hn:=G.sn m S hSm;have hset:=hS'.set (d:=d) (a:=r) (x:=v) (Nat.lt_of_lt_of_eq (hdlt d hdst).1 hn.symm) (by rw [<- hr]; exact eP (cd _ _) (cQ (aI _) _ _ hrv));refine ih _ _ w' m S hsz' hc' hD' (fun j oj hoj huj=>?_) hm hSm hT' (Sat.congrE ⟨p',β,hset⟩ ?_ rfl rfl) hds
    ·rw [hLs]
     have hji:j≠i:=by
      rintro rfl;rw [ho] at hoj;injection hoj with hoj
      subst hoj;rw [hu] at huj;cases huj
     rw [dH hji,O2];exact hE j oj hoj huj
    ·funext s;by_cases hs:s=d
     ·subst hs;rw [su G.once _ _ hent,hLs];simp [St.set]
     ·simp only [St.set,dH hs,NK];by_cases hk:∃ (j:Nat) (b:AV),ent[j]?=some (some (s,b))
      ·obtain ⟨j,b,hj⟩:=hk
       have hji:j≠i:=by
        rintro rfl;rw [hent] at hj;injection hj with hj
        injection hj with hj
        injection hj with hj _
        exact hs hj.symm
       have hbg:b.noGd=true:=by
        have hjs:j<hd.size:=by
         rcases NW j ent.length with h | h
         ·rw [<- G.size]; exact h
         ·rw [List.getElem?_eq_none h] at hj; cases hj
        have hoj:hd[j]?=some hd[j]:=by simp [hjs]
        cases huj:fS ss hd[j]
        ·obtain ⟨d',r',k1,k2,_⟩:=G.value j _ hoj huj;rw [hj] at k1;injection k1 with k1
         injection k1 with k1
         injection k1 with _ k1
         rw [k1]; exact k2
        ·have:=(G.turn j _ hoj huj).1;rw [hj] at this;cases this
       rw [su G.once _ _ hj,su G.once _ _ hj,hLs,dH hji,O2];cases listed.getD j true
       ·rfl
       ·exact (gE hbg).symm
      ·have hk':∀ (j:Nat) a,ent[j]?≠some (some (s,a)):=fun j a e=>hk ⟨j,a,e⟩
       rw [dq _ _ hk',dq _ _ hk'];exact (gE (G.noGd m S hSm s)).symm
   ·
    obtain ⟨hent,Si,qs,T,hSi,hev,hq,hnext⟩:=G.turn i o ho hu
    have him:ec ss hd i=m:=by
     have h4:=hE i o ho hu;rw [h2] at h4;have h5:=Nx h4.symm;rcases NW m (ec ss hd i) with hlt | hge
     ·exfalso
      have:∀ k,k<=i->m<ec ss hd k->∃ e oe,e<k/\hd[e]?=some oe/\fS ss oe=true/\ec ss hd e=m:=by
       intro k
       induction k with
       | zero=>intro _ h; simp [ec] at h
       | succ k ih =>
        intro hk h;have hok:hd[k]?=some hd[k]:=by simp [show k<hd.size by omega]
        rw [ly hok] at h;by_cases hm2:m<ec ss hd k
        ·obtain ⟨e,oe,q1,q2⟩:=ih (by omega) hm2;exact ⟨e,oe,by omega,q2⟩
        ·split at h
         ·rename_i hu';exact ⟨k,_,by omega,hok,hu',by omega⟩
         ·omega
      obtain ⟨e,oe,q1,q2,q3,q4⟩:=this i (NR _) hlt;have hw:=G.order i e o oe ho q2 hu q3 q1;have hle:=ofWait listed hD i o ho h3' e hw;rw [hE e oe q2 q3,q4] at hle;simp at hle
     ·omega
    rw [him] at hSi hnext;rw [hSm] at hSi;injection hSi with hSi
    subst hSi;obtain ⟨T',hev',hov⟩:=J5 (P:=P) (ss:=ss) (B':=gu S (dg (fun j=>listed.getD j true) 0 ent)) hu (fun d hd=>(hdlt d hd).2) hev rfl rfl rfl (G.look S ho h3' hwe);obtain ⟨p,β,hB⟩:=hS;unfold wpOp;rw [hoo];simp only;rw [if_pos hwant]
    have hmlt:m+1<=ec ss hd hd.size:=by
     have h6:=F3 (ss:=ss) (ops:=hd) (show i+1<=hd.size by omega);rw [ly ho,if_pos hu,him] at h6;exact h6
    refine .inl (qG hB hss hev' hq _ Q (fun a' w' hS' hd'=>?_));refine ih _ a' w' (m+1) (Dy ss hd T) hsz' hc' hD' (fun j oj hoj huj=>?_) hmlt hnext hT' ((dY hS').weak (fun s=>?_) hov.lh.symm hov.n.symm) (hd'.trans hds)
    ·rw [hLs,hE j oj hoj huj];by_cases hji:j=i
     ·subst hji;rw [him];simp
     ·rw [dH hji,O2];apply PG.2
      have hne:ec ss hd j≠m:=by
       intro e;rcases NW j i with hlt | hge
       ·have h6:=F3 (ss:=ss) (ops:=hd) (show j+1<=i by omega);rw [ly hoj,if_pos huj] at h6;omega
       ·have h6:=F3 (ss:=ss) (ops:=hd) (show i+1<=j by omega);rw [ly ho,if_pos hu] at h6;omega
      omega
    ·by_cases hk:∃ (j:Nat) (b:AV),ent[j]?=some (some (s,b))
     ·obtain ⟨j,b,hj⟩:=hk
      have hji:j≠i:=by
       rintro rfl;rw [hent] at hj;cases hj
      rw [su G.once _ _ hj,hLs,dH hji,O2];cases hlj:listed.getD j true
      ·exact .inr rfl
      ·left
       have hnw:dD hd j i=false:=by
        cases hw:dD hd j i
        ·rfl
        ·exfalso
         have hjs:j<hd.size:=by
          rcases NW j ent.length with h | h
          ·rw [<- G.size]; exact h
          ·rw [List.getElem?_eq_none h] at hj; cases hj
         have hoj:hd[j]?=some hd[j]:=by simp [hjs]
         have:=ofWait listed hD j _ hoj (fun e he=>hD j _ hlj (liftO j _ hoj) e he) i hw;rw [h2] at this;cases this
       obtain ⟨f1,f2⟩:=G.fixed i o ho hu j s b hj hnw;have henv:(gu S (dg (fun j=>listed.getD j true) 0 ent)).env s=b:=by rw [su G.once _ _ hj,hlj]; rfl
       have hsd:¬ o.dst=some s:=by
        intro hds1
        have hjs:j<hd.size:=by
         rcases NW j ent.length with h | h
         ·rw [<- G.size]; exact h
         ·rw [List.getElem?_eq_none h] at hj; cases hj
        have hoj:hd[j]?=some hd[j]:=by simp [hjs]
        cases huj:fS ss hd[j]
        ·obtain ⟨d',r',k1,_,k2,_⟩:=G.value j _ hoj huj;rw [hj] at k1;injection k1 with k1
         injection k1 with k1
         injection k1 with k1 _
         subst k1;exact hji (G.dist j i _ o s hoj ho k2 hds1)
        ·have:=(G.turn j _ hoj huj).1;rw [hj] at this;cases this
       have:=hov.keep s hsd (by rw [henv]; exact f1) (by rw [henv]; exact f2);show b=(T'.env s).opn [];rw [this,henv];exact (Mp f2).symm
     ·have hk':∀ (j:Nat) a,ent[j]?≠some (some (s,a)):=fun j a e=>hk ⟨j,a,e⟩
      rw [dq _ _ hk',sA];split
      ·exact .inr rfl
      ·left;show (T.env s).opn []=(T'.env s).opn [];rw [hov.env s (by rw [dq _ _ hk',dq _ _ hk'])]
theorem qd:∀ (os:List Oper) (i:Nat) (S:St) (ent:List (Option (Nat×AV))) (ps:List Prop) (Ss:List St) (ent':List (Option (Nat×AV))),iA P ss ops os i S ent=some (ps,Ss,ent')->∀ S'∈Ss,S'=S\/∃ T,S'=Dy ss ops T
 | [],i,S,ent,ps,Ss,ent',h,S',hS'=>by
  simp only [iA,Jg,Ny] at h;obtain ⟨_,rfl,_⟩:=h;exact .inl (NL.1 hS')
 | o::os,i,S,ent,ps,Ss,ent',h,S',hS'=>by
  unfold iA at h;split at h
  ·split at h <;> try cases h
   rename_i ps1 T hev;split at h <;> simp only [Jg,Ny,reduceCtorEq] at h;rename_i qs Ss1 ent1 hr;obtain ⟨rfl,rfl,rfl⟩:=h;rcases NG.1 hS' with rfl | hS'
   ·exact .inl rfl
   ·rcases qd os _ _ _ _ _ _ hr S' hS' with rfl | h
    ·exact .inr ⟨T,rfl⟩
    ·exact .inr h
  ·split at h <;> try cases h
   split at h <;> simp only [Jg,Ny,reduceCtorEq] at h;rename_i qs Ss1 ent1 hr;obtain ⟨rfl,rfl,rfl⟩:=h;exact qd os _ _ _ _ _ _ hr S' hS'
theorem MP {S S':St} (h1:S.lh=S'.lh) (h2:S.env=S'.env) (h3:S.n=S'.n) (h4:S.lock=S'.lock):S=S':=by
 cases S; cases S';simp only at h1 h2 h3 h4;subst h1 h2 h3 h4;rfl
theorem JP {S0:St} {ps qs:List Prop} {Ss:List St} {ent:List (Option (Nat×AV))} (hgo:iA P ss ops ops.toList 0 (Dy ss ops S0) []=some (ps,Ss,ent)) (hchk:H7 P ss ops Ss ent ops.toList 0=some qs) (hok:Nn ss ops S0.n Ss ent=true) (hlen:Ss.length=ec ss ops ops.size+1)
  (hps:∀ q∈ps,q) (hqs:∀ q∈qs,q):Graph P ss ops S0.n Ss ent:=by
 obtain ⟨g1,_,g3,g4⟩:=jr ops.toList 0 _ [] ps Ss ent hgo (by simp) (by omega) rfl;have e0:ec ss ops 0=0:=by simp [ec]
 simp only [e0,Nat.sub_zero] at g4
 have hU:∀ S'∈Ss,∃ T,S'=Dy ss ops T:=fun S' h=>by
  rcases qd _ _ _ _ _ _ _ hgo S' h with h | h
  ·exact ⟨S0,h⟩
  ·exact h
 unfold Nn at hok;simp only [NA] at hok;obtain ⟨⟨k1,k2⟩,k3⟩:=hok
 have sizeOf:∀ (i:Nat) o,ops[i]?=some o->i<ops.size:=by
  intro i o ho;rcases NW i ops.size with h | h
  ·exact h
  ·rw [Array.getElem?_eq_none h] at ho; cases ho
 have hrow:∀ (i:Nat) o,ops[i]?=some o->(xg ss ops ops.size i o&&o.guard.isNone&&(match o.dst with
    | some d=>Nat.blt d S0.n&&Nat.blt d 1000000
    | none=>true) &&
   (!fS ss o||((List.range i).all fun e=>match ops[e]? with
    | some oe=>!fS ss oe||dD ops i e
    | none=>true)&&(List.range ent.length).all fun j=>dD ops j i||match ent[j]? with
     | some (some (_,r))=>(match o.dst with
      | some d=>vZ d r
      | none=>r.noGd)
     | _=>true))=true:=by
  intro i o ho;have:=NH.1 k1 i (by simpa using sizeOf i o ho);simpa only [ho] using this
 have hdist:∀ (i j:Nat) (oi oj:Oper) (d:Nat),ops[i]?=some oi->ops[j]?=some oj->oi.dst=some d->oj.dst=some d->i=j:=fun i j oi oj d hi hj=>CK ops.toList k2 i j oi oj d (by simpa using hi) (by simpa using hj)
 have hentry:∀ (j d:Nat) (r:AV),ent[j]?=some (some (d,r))->∃ o,ops[j]?=some o/\fS ss o=false/\o.dst=some d/\r.noGd=true:=by
  intro j d r hj
  have hjs:j<ops.size:=by
   rcases NW j ent.length with h | h
   ·omega
   ·rw [List.getElem?_eq_none h] at hj; cases hj
  have ho:ops[j]?=some ops[j]:=by simp [hjs]
  obtain ⟨Sj,_,a1,a2⟩:=g4 j _ (Of _) ho;cases hu:fS ss ops[j]
  ·obtain ⟨_,r',d',b1,b2,_⟩:=a2 hu;rw [hj] at b1;injection b1 with b1
   injection b1 with b1
   injection b1 with b1 b3
   subst b1 b3;exact ⟨_,ho,hu,b2,cd _ _⟩
  ·have:=(a1 hu).1;rw [hj] at this;cases this
 have honce:vd ent:=by
  intro i j s a b hi hj;obtain ⟨oi,h1,_,h2,_⟩:=hentry i s a hi;obtain ⟨oj,h3,_,h4,_⟩:=hentry j s b hj;exact hdist i j oi oj s h1 h3 h2 h4
 have hfree:∀ (m:Nat) S,Ss[m]?=some S->∀ (j d:Nat) (r:AV),ent[j]?=some (some (d,r))->S.env d=.any:=by
  intro m S hS j d r hj;obtain ⟨T,rfl⟩:=hU S (Oy hS);obtain ⟨o,h1,h2,h3,_⟩:=hentry j d r hj;have hmem:o∈ops.toList:=Oy (show ops.toList[j]?=some o by simpa using h1);rw [sA,if_pos];simp only [sM,N1];exact OX.2 ⟨o,hmem,by rw [h2]; simp [h3]⟩
 have hokAt:∀ (i:Nat) o,ops[i]?=some o->xg ss ops ops.size i o=true/\o.guard=none/\∀ d,o.dst=some d->d<S0.n/\d<1000000:=by
  intro i o ho;have:=hrow i o ho;simp only [NA] at this;obtain ⟨⟨⟨h1,h2⟩,h3⟩,_⟩:=this;refine ⟨h1,by simpa using h2,fun d hd=>?_⟩;rw [hd] at h3;simp only [NA] at h3;exact ⟨NO h3.1,NO h3.2⟩
 have hbehind:∀ (i:Nat) o,ops[i]?=some o->∀ j,dD ops i j=true->j<i:=by
  intro i o ho j hj;exact ky (ops:=ops) (L:=fun j=>j<i) (fun k ok hk hok e he=>by have:=(ld (hokAt k ok hok).1).1 e he; omega) (fun k hk=>by have:=sizeOf i o ho; omega) i o ho (fun e he=>(ld (hokAt i o ho).1).1 e he) j hj
 have hcut:∀ (m:Nat) S,Ss[m]?=some S->∀ (i:Nat) o,ops[i]?=some o->gu S (dg (dD ops i) 0 (ent.take i))=gu S (dg (dD ops i) 0 ent):=by
  intro m S hS i o ho;refine MP rfl (funext fun s=>?_) rfl rfl
  have ho1:vd (ent.take i):=by
   intro a b s x y h1 h2;rw [List.getElem?_take] at h1 h2;split at h1 <;> try cases h1
   split at h2 <;> try cases h2
   exact honce a b s x y h1 h2
  by_cases hk:∃ (j:Nat) (b:AV),ent[j]?=some (some (s,b))
  ·obtain ⟨j,b,hj⟩:=hk;rw [su honce _ _ hj];by_cases hji:j<i
   ·have:(ent.take i)[j]?=some (some (s,b)):=by rw [List.getElem?_take,if_pos hji]; exact hj
    rw [su ho1 _ _ this]
   ·have hw:dD ops i j=false:=by
     cases h:dD ops i j
     ·rfl
     ·exact absurd (hbehind i o ho j h) hji
    rw [hw,NK,dq,hfree m S hS j s b hj];intro j' b' hj';rw [List.getElem?_take] at hj';split at hj' <;> try cases hj'
    rename_i hlt;have:=honce j' j s b' b hj' hj;omega
  ·have hk':∀ (j:Nat) a,ent[j]?≠some (some (s,a)):=fun j a e=>hk ⟨j,a,e⟩
   rw [dq _ _ hk',dq];intro j b hj;rw [List.getElem?_take] at hj;split at hj <;> try cases hj
   exact hk' j b hj
 refine ⟨g1,hlen,fun m S hS=>?_,fun m S hS s=>?_,hfree,honce,hdist,hokAt,fun j o ho hu=>?_,fun j o ho hu=>?_,fun i e oi oe hi he hui hue hei=>?_,fun i oi hi hui j d r hj hnw=>?_⟩
 ·exact Nz (NH.1 k3 S (Oy hS))
 ·obtain ⟨T,rfl⟩:=hU S (Oy hS);exact IB T s
 ·obtain ⟨Sj,a0,_,a2⟩:=g4 j o (Of _) ho;obtain ⟨qs1,r,d,b1,b2,b3,b4⟩:=a2 hu;refine ⟨d,r.opn [],b1,cd _ _,b2,fun m S hS hpm=>?_⟩;by_cases hm:m=ec ss ops j
  ·subst hm;rw [hS] at a0;injection a0 with a0
   subst a0;rw [hcut _ S hS j o ho] at b3;exact ⟨qs1,r,b3,rfl,fun q hq=>hps q (b4 q hq)⟩
  ·obtain ⟨qs2,c1,c2⟩:=qO ops.toList 0 qs hchk hqs j o d (r.opn []) (by simpa using ho) (by simpa using b1);rw [Ox] at c1
   have hml:m<Ss.length:=by
    rcases NW m Ss.length with h | h
    ·exact h
    ·rw [List.getElem?_eq_none h] at hS; cases hS
   obtain ⟨S',qs3,r',d1,d2,d3,d4⟩:=qN _ qs2 c1 c2 m (by simpa using hml) hm hpm;rw [hS] at d1;injection d1 with d1
   subst d1;exact ⟨qs3,r',d2,d3,d4⟩
 ·obtain ⟨Sj,a0,a1,_⟩:=g4 j o (Of _) ho;obtain ⟨b1,qs1,T,b2,b3,b4⟩:=a1 hu;refine ⟨b1,Sj,qs1,T,a0,?_,fun q hq=>hps q (b3 q hq),b4⟩;rw [hcut _ Sj a0 j o ho] at b2;exact b2
 ·have:=hrow i oi hi;simp only [NA,Oj,hui,PK,NJ,false_or] at this;have h1:=NH.1 this.2.1 e (by simpa using hei);simpa [he,hue] using h1
 ·have:=hrow i oi hi;simp only [NA,Oj,hui,PK,NJ,false_or] at this
  have hjl:j<ent.length:=by
   rcases NW j ent.length with h | h
   ·exact h
   ·rw [List.getElem?_eq_none h] at hj; cases hj
  have h1:=NH.1 this.2.2 j (by simpa using hjl);rw [hnw,Pt,hj] at h1;simp only at h1;unfold Ew;cases hd:oi.dst with
  | none =>
   rw [hd] at h1;exact ⟨fun k hk=>(by cases hk),h1⟩
  | some d0 =>
   rw [hd] at h1;exact EH r h1
def G8 (P:Program) (ss:Specs) (ops:Array Oper) (S:St):Option (List Prop×St):=match wE P ss ops S with
 | some r=>some r
 | none=>wE P ss ops (S.freeze (ef ss ops S))
theorem wH (hss:ss.okA P M w0) {id:Nat} {S S':St} {ps:List Prop} {a:Act} {w:World} (hr:wE P ss ops S=some (ps,S')) (hps:∀ q∈ps,q) (hS:Sat M p0 w0 S a.tmps w)
  (hQ:∀ a' w',Sat M p0 w0 S' a'.tmps w'->a'.defers=a.defers->Q .normal a' w'):(Code.region id ops true).wp P Q a w:=by
 unfold wE at hr;generalize Ch ops ops.size=k at *;have hhd0:∀ i,i<k->ops[i]?=(ops.toList.take k).toArray[i]?:=fun i hi=>by simp [hi]
 have hsz0:k<=ops.size->((ops.toList.take k).toArray).size=k:=fun h=>by simp; omega
 generalize (ops.toList.take k).toArray=hd at *;unfold I5 at hr;split at hr <;> try cases hr
 rename_i ps1 Ss ent hgo;split at hr <;> try cases hr
 rename_i qs Sr hchk hlast;split at hr <;> try cases hr
 rename_i hck;split at hr <;> simp only [Jg,Ny,reduceCtorEq] at hr;rename_i qs2 S2 hrun;simp only [NA] at hck;obtain ⟨rfl,rfl⟩:=hr;have hlen:=Nz hck.1.2;have hkle:=NO hck.2.1;have hksz:=hsz0 hkle;subst hksz
 have sizeOf:∀ (i:Nat) o,ops[i]?=some o->i<ops.size:=by
  intro i o ho;rcases NW i ops.size with h | h
  ·exact h
  ·rw [Array.getElem?_eq_none h] at ho; cases ho
 have hrow:∀ (i:Nat) o,ops[i]?=some o->((bi o).all (fun e=>Nat.blt e i)&&(Nat.blt i hd.size||(List.range i).all (fun j=>((eI ops).getD i 0).testBit j)))=true:=by
  intro i o ho;have:=NH.1 hck.2.2 i (by simpa using sizeOf i o ho);simpa only [ho] using this
 have hedge:∀ (i:Nat) o,ops[i]?=some o->∀ e∈bi o,e<i:=by
  intro i o ho e he;have:=hrow i o ho;simp only [NA] at this;simpa using NH.1 this.1 e he
 have htail:∀ (i:Nat) o,hd.size<=i->ops[i]?=some o->∀ j,j<i->((eI ops).getD i 0).testBit j=true:=by
  intro i o hi ho j hj;have:=hrow i o ho;simp only [NA,Oj] at this;rcases this.2 with h | h
  ·have:=NO h; omega
  ·exact NH.1 h j (by simpa using hj)
 have G:=JP hgo hchk hck.1.1.2 hlen (fun q hq=>hps q (ND _ hq)) (fun q hq=>hps q (NF _ (ND _ hq)))
 have hSr:Ss[ec ss hd hd.size]?=some Sr:=by
  rw [List.getLast?_eq_getElem?,hlen] at hlast;exact hlast
 have hS0:Ss[0]?=some (Dy ss hd S):=(jr hd.toList 0 _ [] ps1 Ss ent hgo (by simp) (by omega) rfl).2.2.1
 have hS2:Sat M p0 w0 S.clean a.tmps { w with drawn:=w.drawn+1 }:=by
  obtain ⟨p,β,h⟩:=dY hS;exact ⟨p,β,⟨h.keep.os,h.keep.tape,h.keep.output,h.keep.size,h.keep.block⟩,h.agr,h.old,h.size,h.lhs,h.owns,h.inj,h.env⟩
 have hempty:∀ j,j<ops.size->(Array.replicate ops.size false).getD j true=false:=fun j hj=>by simp [hj]
 refine wp_region_any hck.1.1.1 ?_;refine MZ (M:=M) (p0:=p0) (w0:=w0) hss G hkle hhd0 hedge htail (ds:=a.defers) hSr (fun a' w' hS' hd'=>?_) ops.size _ a _ 0 (Dy ss hd S) (by simp) ?_ ?_ ?_ (Of _) hS0 (fun j _ hj=>hempty j hj) ?_ rfl
 ·exact kG hss _ _ S2 qs2 a' w' hrun (fun q hq=>hps q (NF _ (NF _ hq))) hS' (fun a'' w'' h5 h6=>hQ a'' w'' h5 (h6.trans hd'))
 ·have:∀ n,z6 (Array.replicate ops.size false) n<=n:=by
   intro n
   induction n with
   | zero=>exact NR _
   | succ n ih=>simp only [z6]; split <;> omega
  exact this _
 ·intro i o hi ho;have hi:(Array.replicate ops.size false).getD i true=true:=hi;rw [hempty i (sizeOf i o ho)] at hi;cases hi
 ·intro i o ho _
  have his:i<hd.size:=by
   rcases NW i hd.size with h | h
   ·exact h
   ·rw [Array.getElem?_eq_none h] at ho; cases ho
  rw [hempty i (by omega)];simp
 ·refine hS2.weak (fun s=>?_) rfl rfl;by_cases hk:∃ (j:Nat) (b:AV),ent[j]?=some (some (s,b))
  ·obtain ⟨j,b,hj⟩:=hk
   have hjs:j<hd.size:=by
    rcases NW j ent.length with h | h
    ·rw [<- G.size]; exact h
    ·rw [List.getElem?_eq_none h] at hj; cases hj
   rw [su G.once _ _ hj,hempty j (by omega)];exact .inr rfl
  ·have hk':∀ (j:Nat) a,ent[j]?≠some (some (s,a)):=fun j a e=>hk ⟨j,a,e⟩
   rw [dq _ _ hk',sA];split
   ·exact .inr rfl
   ·exact .inl rfl
end
section
variable {M:Nat->Prop} {p0:PH} {w0:World} {P:Program} {ss:Specs} {ops:Array Oper} {Q:Exit->Act->World->Prop}
def Fm (_:Program) (_:Specs) (_:Array Oper) (_:St):Option (List Prop×St):=none
theorem wI (_:ss.okA P M w0) {id:Nat} {S S':St} {ps:List Prop} {a:Act} {w:World} (hr:Fm P ss ops S=some (ps,S')) (_:∀ q∈ps,q) (_:Sat M p0 w0 S a.tmps w)
  (_:∀ a' w',Sat M p0 w0 S' a'.tmps w'->a'.defers=a.defers->Q .normal a' w'):(Code.region id ops true).wp P Q a w:=by cases hr
def G9 (P:Program) (ss:Specs) (ops:Array Oper) (S:St):Option (List Prop×St):=match Fm P ss ops S with
 | some r=>some r
 | none=>Fm P ss ops (S.freeze (ef ss ops S))
def ma (P:Program) (ss:Specs) (ops:Array Oper) (S:St):Option (List Prop×St):=match oG P ss ops S with
 | some r=>some r
 | none=>match G8 P ss ops S with
  | some r=>some r
  | none=>G9 P ss ops S
theorem Bt (hss:ss.okA P M w0) {S:St} {id:Nat} {S':St} {ps:List Prop} {a:Act} {w:World} (hr:G8 P ss ops S=some (ps,S')) (hps:∀ q∈ps,q) (hS:Sat M p0 w0 S a.tmps w)
  (hQ:∀ a' w',Sat M p0 w0 S' a'.tmps w'->a'.defers=a.defers->Q .normal a' w'):(Code.region id ops true).wp P Q a w:=by
 unfold G8 at hr;split at hr
 ·rename_i r h;injection hr with hr
  subst hr;exact wH hss h hps hS hQ
 ·obtain ⟨pF,βF,hSF⟩:=hS;obtain ⟨p1F,_,hS1F⟩:=bQ (ef ss ops S) S pF hSF;exact wH hss hr hps ⟨p1F,βF,hS1F⟩ hQ
theorem Bu (hss:ss.okA P M w0) {S:St} {id:Nat} {S':St} {ps:List Prop} {a:Act} {w:World} (hr:G9 P ss ops S=some (ps,S')) (hps:∀ q∈ps,q) (hS:Sat M p0 w0 S a.tmps w)
  (hQ:∀ a' w',Sat M p0 w0 S' a'.tmps w'->a'.defers=a.defers->Q .normal a' w'):(Code.region id ops true).wp P Q a w:=by
 unfold G9 at hr;split at hr
 ·rename_i r h;injection hr with hr
  subst hr;exact wI hss h hps hS hQ
 ·obtain ⟨pF,βF,hSF⟩:=hS;obtain ⟨p1F,_,hS1F⟩:=bQ (ef ss ops S) S pF hSF;exact wI hss hr hps ⟨p1F,βF,hS1F⟩ hQ
theorem yM (hss:ss.okA P M w0) {S0:St} {id:Nat} {S':St} {ps:List Prop} {a:Act} {w:World} (hr:ma P ss ops S0.clean=some (ps,S')) (hps:∀ q∈ps,q) (hS:Sat M p0 w0 S0.clean a.tmps w)
  (hQ:∀ a' w',Sat M p0 w0 S' a'.tmps w'->a'.defers=a.defers->Q .normal a' w'):(Code.region id ops true).wp P Q a w:=by
 unfold ma at hr;split at hr
 ·rename_i r h;injection hr with hr
  subst hr;exact Bv hss h hps hS hQ
 ·split at hr
  ·rename_i r h;injection hr with hr
   subst hr;exact Bt hss h hps hS hQ
  ·exact Bu hss hr hps hS hQ
def mb (b:Bool) (P:Program) (ss:Specs) (ops:Array Oper) (S:St):Option (List Prop×St):=bif b then (match G8 P ss ops S with
 | some r=>some r
 | none=>G9 P ss ops S) else ma P ss ops S
theorem yN (hss:ss.okA P M w0) {S0:St} {b:Bool} {id:Nat} {S':St} {ps:List Prop} {a:Act} {w:World} {Q:Exit->Act->World->Prop} (hr:mb b P ss ops S0.clean=some (ps,S')) (hps:∀ q∈ps,q) (hS:Sat M p0 w0 S0.clean a.tmps w)
  (hQ:∀ a' w',Sat M p0 w0 S' a'.tmps w'->a'.defers=a.defers->Q .normal a' w'):(Code.region id ops true).wp P Q a w:=by
 unfold mb at hr;cases b
 ·exact yM hss hr hps hS hQ
 ·simp only [N2] at hr;split at hr
  ·rename_i r h;injection hr with hr
   subst hr;exact Bt hss h hps hS hQ
  ·exact Bu hss hr hps hS hQ
end
def zY (bad:Nat->Bool) (x:AV):Prop:=x.scrub bad=x/\x.noGd=true
structure Fr (L:List Nat) (bad:Nat->Bool) (S S':St):Prop where
 n:S'.n=S.n
 lock:S'.lock=S.lock
 env:∀ s,L.contains s=false->zY bad (S.env s)->S'.env s=S.env s
 lh:∀ d,S.lock d=true->(∀ e,S.lh d=some e->e.scrub bad=e)->S'.lh d=S.lh d
 frames:∀ d tm env,S.lh d=some (.frame tm env)->∃ env',S'.lh d=some (.frame tm env')/\∀ s,zY bad (env s)->env' s=env s
structure Tidy (bad:Nat->Bool) (S:St):Prop where
 lock:∀ d,S.lock d=true->bad d=false
 row:∀ d e T xs,S.lh d=some (.row e T xs)->S.lock d=false->bad d=true
 frame:∀ d tm env,S.lh d=some (.frame tm env)->S.lock d=true
theorem Fr.refl (L:List Nat) (bad:Nat->Bool) (S:St):Fr L bad S S:=⟨rfl,rfl,fun _ _ _=>rfl,fun _ _ _=>rfl,fun _ _ env h=>⟨env,h,fun _ _=>rfl⟩⟩
theorem Fr.trans {L:List Nat} {bad:Nat->Bool} {S S1 S2:St} (h:Fr L bad S S1) (k:Fr L bad S1 S2):Fr L bad S S2:=by
 refine ⟨k.n.trans h.n,k.lock.trans h.lock,fun s hs hst=>?_,fun d hd hst=>?_,fun d tm env he=>?_⟩
 ·have h1:=h.env s hs hst;exact (k.env s hs (by rw [h1]; exact hst)).trans h1
 ·have h1:=h.lh d hd hst;exact (k.lh d (by rw [h.lock]; exact hd) (by rw [h1]; exact hst)).trans h1
 ·obtain ⟨e1,k1,k2⟩:=h.frames d tm env he;obtain ⟨e2,k3,k4⟩:=k.frames d tm e1 k1;exact ⟨e2,k3,fun s hs=>(k4 s (by rw [k2 s hs]; exact hs)).trans (k2 s hs)⟩
theorem dp {b1 bad:Nat->Bool} (hb:∀ d,b1 d=true->bad d=true):∀ (x:AV),x.scrub bad=x->x.scrub b1=x:=by
 intro x
 induction x with
 | own d=>intro h; simp only [AV.scrub] at h |-; cases h1:b1 d; rfl; rw [hb d h1] at h; cases h
 | loc d off=>intro h; simp only [AV.scrub] at h |-; cases h1:b1 d; rfl; rw [hb d h1] at h; cases h
 | el d T i off=>intro h; simp only [AV.scrub] at h |-; cases h1:b1 d; rfl; rw [hb d h1] at h; cases h
 | mp d=>intro h; simp only [AV.scrub] at h |-; cases h1:b1 d; rfl; rw [hb d h1] at h; cases h
 | osl d T i n=>intro h; simp only [AV.scrub] at h |-; cases h1:b1 d; rfl; rw [hb d h1] at h; cases h
 | psl d i n=>intro h; simp only [AV.scrub] at h |-; cases h1:b1 d; rfl; rw [hb d h1] at h; cases h
 | fn f c1 c2 =>
  intro h;simp only [AV.scrub] at h |-
  have key:∀ (c:List (Nat×Nat)),(c.any fun x=>b1 x.1)=true->(c.any fun x=>bad x.1)=true:=by
   intro c hc;obtain ⟨x,hx,h1⟩:=OK.1 hc;exact OK.2 ⟨x,hx,hb _ h1⟩
  cases h1:(c1.any fun x=>b1 x.1)||(c2.any fun x=>b1 x.1)
  ·rfl
  ·exfalso
   have:((c1.any fun x=>bad x.1)||(c2.any fun x=>bad x.1))=true:=by
    simp only [Oj] at h1 |-;exact h1.imp (key c1) (key c2)
   rw [this] at h;cases h
 | pair a b iha ihb=>intro h; simp only [AV.scrub,AV.pair.injEq] at h |-; exact ⟨iha h.1,ihb h.2⟩
 | tup a b iha ihb=>intro h; simp only [AV.scrub,AV.tup.injEq] at h |-; exact ⟨iha h.1,ihb h.2⟩
 | gd g w a iha=>intro h; simp only [AV.scrub,AV.gd.injEq,Pp] at h |-; exact iha h
 | _=>intro _; rfl
theorem gZ {b1 bad:Nat->Bool} (hb:∀ d,b1 d=true->bad d=true) (e:LE) (h:e.scrub bad=e):e.scrub b1=e:=by
 cases e with
 | cells c=>simp only [LE.scrub,LE.cells.injEq] at h |-; exact dp hb c h
 | mapo k V m x c =>
  simp only [LE.scrub,LE.mapo.injEq,heq_eq_eq,Pp] at h |-;exact dp hb c h
 | frame tm env=>simp only [LE.scrub,LE.frame.injEq,Pp] at h |-; funext s; exact dp hb _ (congrFun h s)
 | _=>rfl
theorem uj {x:AV} (h:x.noGd=true) (d:Nat):x.killG d=x:=by cases x <;> first | (cases h; done) | rfl
section
variable {L:List Nat} {bad:Nat->Bool} {S:St}
theorem ii {d:Nat} (hd:L.contains d=true) (x:AV):Fr L bad S (S.set d x):=by
 refine ⟨rfl,rfl,fun s hs hst=>?_,fun _ _ _=>rfl,fun _ _ env h=>⟨env,h,fun _ _=>rfl⟩⟩;have hne:s≠d:=by intro e; subst e; rw [hd] at hs; cases hs
 simp only [St.set,b7 hne,NK];exact uj hst.2 d
theorem ei (h:Tidy bad S) (d:Nat) (x:AV):Tidy bad (S.set d x):=⟨h.lock,h.row,h.frame⟩
theorem cM (h:Tidy bad S) {d:Nat} (hd:S.lock d=false) (e:LE):Fr L bad S (S.entry d e):=by
 refine ⟨rfl,rfl,fun _ _ _=>rfl,fun d' hd' _=>?_,fun d' tm env he=>⟨env,?_,fun _ _=>rfl⟩⟩
 ·have hne:d'≠d:=by intro e; subst e; rw [hd] at hd'; cases hd'
  simp only [St.entry,b7 hne,NK]
 ·have hne:d'≠d:=by intro e; subst e; have:=h.frame _ _ _ he; rw [hd] at this; cases this
  simp only [St.entry,b7 hne,NK];exact he
theorem bO (h:Tidy bad S) {d:Nat} {e:LE} (he:∀ t T xs,e=.row t T xs->bad d=true) (hf:∀ tm env,e≠.frame tm env:=by intro _ _ h; cases h):Tidy bad (S.entry d e):=by
 refine ⟨h.lock,fun d' t T xs hd' hl=>?_,fun d' tm env hd'=>?_⟩
 ·by_cases hne:d'=d
  ·subst hne;simp only [St.entry,d7,N2,Jg] at hd';exact he t T xs hd'
  ·simp only [St.entry,b7 hne,NK] at hd';exact h.row d' t T xs hd' hl
 ·by_cases hne:d'=d
  ·subst hne;simp only [St.entry,d7,N2,Jg] at hd';exact absurd hd' (hf tm env)
  ·simp only [St.entry,b7 hne,NK] at hd';exact h.frame d' tm env hd'
theorem uv (h:Tidy bad S) {d:Nat} (hd:bad d=true) (e:LE) (hf:∀ tm env,e≠.frame tm env:=by intro _ _ h; cases h):Fr L bad S (S.fresh d e)/\Tidy bad (S.fresh d e):=by
 have hsub:∀ x,Nat.beq x d=true->bad x=true:=fun x hx=>by rw [Nz hx]; exact hd
 have hlk:∀ d',S.lock d'=true->d'≠d:=by intro d' hd' e; subst e; have:=h.lock _ hd'; rw [hd] at this; cases this
 refine ⟨⟨rfl,rfl,fun _ _ hst=>dp hsub _ hst.1,fun d' hd' hst=>?_,fun d' tm env he=>?_⟩,⟨h.lock,fun d' t T xs hd' hl=>?_,fun d' tm env hd'=>?_⟩⟩
 ·simp only [St.fresh,St.entry,St.scrub,b7 (hlk d' hd'),NK];cases hl:S.lh d' with
  | none=>rfl
  | some e0=>simp only [Od,gZ hsub e0 (hst e0 hl)]
 ·have hne:=hlk d' (h.frame _ _ _ he);refine ⟨fun s=>(env s).scrub (fun x=>Nat.beq x d),?_,fun s hs=>dp hsub _ hs.1⟩;simp only [St.fresh,St.entry,St.scrub,b7 hne,NK,he,Od,LE.scrub]
 ·by_cases hne:d'=d
  ·subst hne; exact hd
  ·simp only [St.fresh,St.entry,St.scrub,b7 hne,NK,NB] at hd';obtain ⟨e0,h1,h2⟩:=hd';cases e0 <;> simp only [LE.scrub,reduceCtorEq] at h2;exact h.row d' _ _ _ h1 hl
 ·by_cases hne:d'=d
  ·subst hne;simp only [St.fresh,St.entry,d7,N2,Jg] at hd';exact absurd hd' (hf tm env)
  ·simp only [St.fresh,St.entry,St.scrub,b7 hne,NK,NB] at hd';obtain ⟨e0,h1,h2⟩:=hd';cases e0 <;> simp only [LE.scrub,reduceCtorEq] at h2;exact h.frame d' _ _ h1
theorem EG (h:Tidy bad S) (d:Nat):Fr L bad S (S.freeze1 d)/\Tidy bad (S.freeze1 d):=by
 unfold St.freeze1;split
 ·split
  ·exact ⟨Fr.refl _ _ _,h⟩
  ·rename_i hl;exact ⟨cM h (by simpa using hl) _,bO h (fun t T xs e=>by cases e)⟩
 ·split
  ·exact ⟨Fr.refl _ _ _,h⟩
  ·rename_i hl;exact ⟨cM h (by simpa using hl) _,bO h (fun t T xs e=>by cases e)⟩
 ·exact ⟨Fr.refl _ _ _,h⟩
theorem c7:∀ (ds:List Nat) (S:St),Tidy bad S->Fr L bad S (S.freeze ds)/\Tidy bad (S.freeze ds)
 | [],S,h=>⟨Fr.refl _ _ _,h⟩
 | d::ds,S,h=>by
  have h1:=EG (L:=L) h d;have h2:=c7 ds (S.freeze1 d) h1.2;exact ⟨h1.1.trans h2.1,h2.2⟩
theorem Ct {d:Nat} (hd:∀ k,bad (br d k)=true):∀ (Rs:List RT) (k:Nat) (x:ed Rs) (S:St),Tidy bad S->Fr L bad S (kI d k Rs x S)/\Tidy bad (kI d k Rs x S):=by
 have put:∀ (R:RT) (x:R.den) (k:Nat) (S:St),Tidy bad S->Fr L bad S (R.put x (br d k) S)/\Tidy bad (R.put x (br d k) S):=by
  intro R x k S h;cases R with
  | dat T=>exact ⟨Fr.refl _ _ _,h⟩
  | own e T=>exact uv h (hd k) _
  | map k' V=>exact uv h (hd k) _
 intro Rs
 induction Rs with
 | nil=>intro k x S h; exact ⟨Fr.refl _ _ _,h⟩
 | cons R Rs ih =>
  intro k x S h;cases Rs with
  | nil=>exact put R x k S h
  | cons U Rs =>
   have h1:=put R x.1 k S h;have h2:=ih (k+1) x.2 _ h1.2;exact ⟨h1.1.trans h2.1,h2.2⟩
def Named (L:List Nat) (bad:Nat->Bool):Prop:=∀ d,L.contains d=true->∀ k,bad (br d k)=true
theorem Named.at0 (h:Named L bad) {d:Nat} (hd:L.contains d=true):bad d=true:=by
 have:=h d hd 0;simpa [br] using this
theorem cz (hN:Named L bad) (h:Tidy bad S) {d:Nat} (hd:L.contains d=true) (e:LE) (x:AV) (hf:∀ tm env,e≠.frame tm env:=by intro _ _ h; cases h):Fr L bad S ((S.fresh d e).set d x)/\Tidy bad ((S.fresh d e).set d x):=by
 have h1:=uv (L:=L) h (hN.at0 hd) e hf;exact ⟨h1.1.trans (ii hd x),ei h1.2 d x⟩
theorem zm {P:Program} (h:Tidy bad S) {t:TypeId} {m x v:AV} {ps:List Prop} {S':St} (he:gH P S t m x v=some (ps,S')):Fr L bad S S'/\Tidy bad S':=by
 unfold gH at he;split at he <;> try cases he
 rename_i d k' n _;split at he <;> try cases he
 split at he <;> try cases he
 split at he
 ·cases he
 rename_i hl;split at he <;> simp only [Jg,Ny,reduceCtorEq] at he;obtain ⟨_,rfl⟩:=he;have h1:=c7 (L:=L) (bad:=bad) v.owns S h;have hl2:(S.freeze v.owns).lock d=false:=by rw [(cH _ _).2.2]; simpa using hl
 exact ⟨h1.1.trans (cM h1.2 hl2 _),bO h1.2 (fun t T xs e=>by cases e)⟩
theorem rX {b:Bool} {P:Program} (h:Tidy bad S) {t:TypeId} {m x v:AV} {ps:List Prop} {S':St} (he:gb b P S t m x v=some (ps,S')):Fr L bad S S'/\Tidy bad S':=by
 unfold gb at he;cases b with
 | true =>
  simp only [N2] at he;unfold kQ at he;split at he <;> try cases he
  split at he <;> try cases he
  split at he <;> try cases he
  split at he
  ·cases he
  rename_i hl;split at he <;> simp only [Jg,Ny,reduceCtorEq] at he;obtain ⟨_,rfl⟩:=he;exact ⟨cM h (by simpa using hl) _,bO h (fun t T xs e=>by cases e)⟩
 | false =>
  simp only [NK] at he;split at he
  ·rename_i h1;injection he with he
   subst he;unfold eD at h1;split at h1 <;> try cases h1
   split at h1 <;> try cases h1
   split at h1 <;> try cases h1
   split at h1
   ·cases h1
   rename_i hl;split at h1 <;> simp only [Jg,Ny,reduceCtorEq] at h1;obtain ⟨_,rfl⟩:=h1;exact ⟨cM h (by simpa using hl) _,bO h (fun t T xs e=>by cases e)⟩
  ·exact zm h he
theorem zj (hN:Named L bad) (h:Tidy bad S) {d:Nat} (hdL:L.contains d=true) {r:RowFn} {x:AV} {rest:List AV} {ps:List Prop} {S':St} (he:jk S d r x rest=some (ps,S')) :
  Fr L bad S S'/\Tidy bad S':=by
 unfold jk at he;have h1:=c7 (L:=L) (bad:=bad) ((r.mid rest).flatMap AV.owns) S h;have hlk:(S.freeze ((r.mid rest).flatMap AV.owns)).lock=S.lock:=(cH _ _).2.2;generalize S.freeze ((r.mid rest).flatMap AV.owns)=S1 at *;split at he <;> try cases he
 rename_i n xs hxr;obtain ⟨_,hn⟩:=nE hxr;split at he <;> try cases he
 rename_i ys y _ _;split at he <;> simp only [Jg,Ny,reduceCtorEq] at he;rename_i hb;obtain ⟨rfl,rfl⟩:=he;simp only [NA,NX] at hb;have hl:S1.lock n=false:=by rw [hlk]; exact hb.1.1
 cases r.out
 ·simp only [NK];have h2:Fr L bad S1 (S1.entry n (.row r.e r.T (r.F xs ys y))):=cM h1.2 hl _;have h3:Tidy bad (S1.entry n (.row r.e r.T (r.F xs ys y))):=bO h1.2 (fun t T xs e=>h1.2.row _ _ _ _ hn hl);exact ⟨(h1.1.trans h2).trans (ii hdL _),ei h3 d _⟩
 ·simp only [N2];have h2:Fr L bad S1 (S1.entry n .dead):=cM h1.2 hl .dead;have h3:Tidy bad (S1.entry n .dead):=bO h1.2 (fun t T xs e=>by cases e);have h4:=cz (L:=L) hN h3 hdL (.row r.e r.T (r.F xs ys y)) (.own d);exact ⟨(h1.1.trans h2).trans h4.1,h4.2⟩
theorem zn (hN:Named L bad) (h:Tidy bad S) {d:Nat} (hdL:L.contains d=true) {r:BoxFn} {x:AV} {rest:List AV} {ps:List Prop} {S':St} (he:jl S d r x rest=some (ps,S')) :
  Fr L bad S S'/\Tidy bad S':=by
 unfold jl at he;split at he <;> try cases he
 rename_i n;have h1:=c7 (L:=L) (bad:=bad) (c8 S n++rest.flatMap AV.owns) S h;have hlk:(S.freeze (c8 S n++rest.flatMap AV.owns)).lock=S.lock:=(cH _ _).2.2;generalize S.freeze (c8 S n++rest.flatMap AV.owns)=S1 at *;split at he <;> try cases he
 rename_i c hn;split at he <;> try cases he
 rename_i x0 y _ _;split at he <;> simp only [Jg,Ny,reduceCtorEq] at he;rename_i hb;obtain ⟨rfl,rfl⟩:=he;simp only [NA,NX] at hb;have h2:Fr L bad S1 (S1.entry n (.cells (r.T.av (r.F x0 y).2))):=cM h1.2 (by rw [hlk]; exact hb.1) _;have h3:Tidy bad (S1.entry n (.cells (r.T.av (r.F x0 y).2))):=bO h1.2 (fun t T xs e=>by cases e);have h4:=Ct (L:=L) (hN d hdL) r.Rs 0 (r.F x0 y).1 _ h3;exact ⟨((h1.1.trans h2).trans h4.1).trans (ii hdL _),ei h4.2 d _⟩
theorem JV {P:Program} {ss:Specs} (hN:Named L bad) (h:Tidy bad S) {o:Oper} (hd:∀ d,o.dst=some d->L.contains d=true) {ps:List Prop} {S':St} (he:KE P ss S o=some (ps,S')) :
  Fr L bad S S'/\Tidy bad S':=by
 unfold KE at he;split at he
 ·split at he
  case h_2=>exact rX h he
  case h_3=>exact rX h he
  case h_4 =>
   split at he <;> try cases he
   unfold sH at he;split at he <;> try cases he
   rename_i d T i n _;split at he <;> try cases he
   rename_i e T' xs ig;split at he <;> try cases he
   rename_i hT;subst hT;split at he <;> try cases he
   split at he <;> try cases he
   split at he <;> try cases he
   split at he <;> try cases he
   rename_i y hy;split at he <;> simp only [Jg,Ny,reduceCtorEq] at he;rename_i hb;obtain ⟨rfl,rfl⟩:=he;simp only [NA,NX] at hb;exact ⟨cM h hb.1 _,bO h (fun t T xs e=>h.row _ _ _ _ ig hb.1)⟩
  case h_5=>cases he
  rename_i t ad v ho;unfold j6 at he;split at he <;> try cases he
  split at he
  ·cases he
  split at he
  ·split at he <;> try cases he
   split at he <;> simp only [Jg,Ny,reduceCtorEq] at he <;> obtain ⟨rfl,rfl⟩:=he;rename_i hb;simp only [NA,NX] at hb;exact ⟨cM h hb.1.1.1.1 _,bO h (fun t T xs e=>by cases e)⟩
  ·split at he;rotate_left
   ·rename_i d T i off _ _ c hlh;split at he <;> try cases he
    split at he <;> simp only [Jg,Ny,reduceCtorEq] at he <;> obtain ⟨rfl,rfl⟩:=he;rename_i hb;simp only [NA,NX] at hb;have h1:=c7 (L:=L) (bad:=bad) (S.look [] v).owns S h;have hl:(S.freeze (S.look [] v).owns).lock d=false:=by rw [(cH _ _).2.2]; exact hb.1.1
    exact ⟨h1.1.trans (cM h1.2 hl _),bO h1.2 (fun t T xs e=>by cases e)⟩
   ·cases he
   rename_i d T i off _ _ e' T' xs hlh;split at he <;> try cases he
   rename_i hT;subst hT;split at he <;> try cases he
   rename_i hb;split at he <;> simp only [Jg,Ny,reduceCtorEq] at he <;> obtain ⟨rfl,rfl⟩:=he;simp only [NA,NX] at hb;have h1:=c7 (L:=L) (bad:=bad) (S.look [] v).owns S h;have hl:(S.freeze (S.look [] v).owns).lock d=false:=by rw [(cH _ _).2.2]; exact hb.1.1.1.1
   refine ⟨h1.1.trans (cM h1.2 hl _),bO h1.2 (fun t T xs e=>?_)⟩;exact h1.2.row _ _ _ _ hlh hl
  ·cases he
 ·rename_i d hdst;have hdL:=hd d hdst;split at he
  ·unfold FY at he;split at he <;> simp only [Jg,Ny,reduceCtorEq] at he <;> obtain ⟨rfl,rfl⟩:=he;exact cz hN h hdL _ _
  ·unfold lx at he;split at he <;> try cases he
   split at he <;> try cases he
   split at he <;> simp only [Jg,Ny,reduceCtorEq] at he <;> obtain ⟨rfl,rfl⟩:=he;exact cz hN h hdL _ _
  ·rename_i f args ts ho;unfold lu at he;split at he
   ·split at he <;> try cases he
    split at he <;> try cases he
    exact zj hN h hdL he
   ·split at he <;> try cases he
    split at he <;> try cases he
    exact zn hN h hdL he
   split at he <;> try cases he
   split at he <;> simp only [Jg,Ny,reduceCtorEq] at he <;> obtain ⟨rfl,rfl⟩:=he;rename_i q0 Rs x hev hb
   have h0:Fr L bad S (fD ss S f args.toList)/\Tidy bad (fD ss S f args.toList):=by
    unfold fD;split
    ·split
     ·exact c7 _ S h
     ·exact ⟨Fr.refl _ _ _,h⟩
    ·exact ⟨Fr.refl _ _ _,h⟩
   have h1:=Ct (L:=L) (hN d hdL) Rs 0 x _ h0.2;exact ⟨(h0.1.trans h1.1).trans (ii hdL _),ei h1.2 d _⟩
  ·split at he <;> try cases he
   split at he
   case isFalse =>
    unfold eO at he;split at he <;> try cases he
    split at he <;> try cases he
    split at he <;> try cases he
    split at he <;> try cases he
    split at he <;> try cases he
    split at he <;> simp only [Jg,Ny,reduceCtorEq] at he <;> obtain ⟨rfl,rfl⟩:=he;exact cz hN h hdL _ _
   unfold jA at he;split at he <;> try cases he
   split at he <;> try cases he
   split at he <;> try cases he
   split at he
   ·simp only [Jg,Ny] at he;obtain ⟨rfl,rfl⟩:=he;exact cz hN h hdL _ _
   ·split at he <;> try cases he
    split at he <;> try cases he
    split at he <;> simp only [Jg,Ny,reduceCtorEq] at he <;> obtain ⟨rfl,rfl⟩:=he;rename_i hb;simp only [NA,NX] at hb
    have gen:∀ d1,S.lock d1=false->∀ e x,(∀ tm env,e≠.frame tm env)->Fr L bad S (((S.entry d1 .dead).fresh d e).set d x)/\Tidy bad (((S.entry d1 .dead).fresh d e).set d x):=by
     intro d1 hl e x hf;have h1:Fr L bad S (S.entry d1 .dead):=cM h hl .dead;have h2:Tidy bad (S.entry d1 .dead):=bO h (fun t T xs e=>by cases e);have h3:=cz (L:=L) hN h2 hdL e x hf;exact ⟨h1.trans h3.1,h3.2⟩
    exact gen _ hb.1.2 _ _ (by intro _ _ h; cases h)
   ·cases he
  ·split at he <;> try cases he
   rename_i x y t t' _ _;unfold nY at he;split at he <;> try cases he
   rename_i d1 i n qs T' ys _ _;split at he <;> try cases he
   rename_i e T xs ig;split at he <;> try cases he
   rename_i hT;subst hT;split at he <;> simp only [Jg,Ny,reduceCtorEq] at he <;> obtain ⟨rfl,rfl⟩:=he;rename_i hb;simp only [NA,NX] at hb;have hl:S.lock d1=false:=hb.1.1.2;have h1:Fr L bad S (S.entry d1 (.row e T' (xs.take i++(ys.take (min ys.length n)++xs.drop (i+min ys.length n))))):=cM h hl _;have h2:Tidy bad (S.entry d1 (.row e T' (xs.take i++(ys.take (min ys.length n)++xs.drop (i+min ys.length n))))):=bO h (fun t T xs e=>h.row _ _ _ _ ig hl);exact ⟨h1.trans (ii hdL _),ei h2 d _⟩
  ·split at he <;> try cases he
   unfold nV at he;split at he <;> try cases he
   split at he <;> try cases he
   split at he <;> try cases he
   split at he <;> try cases he
   split at he <;> try cases he
   split at he <;> simp only [Jg,Ny,reduceCtorEq] at he <;> obtain ⟨rfl,rfl⟩:=he;exact cz hN h hdL _ _
  ·unfold jf at he;split at he
   case h_2 =>
    unfold j8 at he;split at he <;> try cases he
    split at he <;> try cases he
    split at he <;> try cases he
    split at he <;> simp only [Jg,Ny,reduceCtorEq] at he <;> obtain ⟨rfl,rfl⟩:=he;exact cz hN h hdL _ _
   rename_i r hr;injection he with he
   subst he;have he:=hr;unfold lw at he;split at he <;> try cases he
   split at he <;> try cases he
   simp only at he;split at he <;> try cases he
   split at he <;> simp only [Jg,Ny,reduceCtorEq] at he <;> obtain ⟨rfl,rfl⟩:=he
   have gen:∀ ds e x,(∀ tm env,e≠.frame tm env)->Fr L bad S (((S.freeze ds).fresh d e).set d x)/\Tidy bad (((S.freeze ds).fresh d e).set d x):=by
    intro ds e x hf;have h1:=c7 (L:=L) (bad:=bad) ds S h;have h3:=cz (L:=L) hN h1.2 hdL e x hf;exact ⟨h1.1.trans h3.1,h3.2⟩
   exact gen _ _ _ (by intro _ _ h; cases h)
  ·unfold uH at he;split at he <;> try cases he
   rename_i d1 k b _ _;split at he <;> try cases he
   rename_i e T xs ig;split at he <;> simp only [Jg,Ny,reduceCtorEq] at he <;> obtain ⟨rfl,rfl⟩:=he;rename_i hb;simp only [NA,NX] at hb;have hl:S.lock d1=false:=hb.1.1.2;have h1:Fr L bad S (S.entry d1 .dead):=cM h hl .dead;have h2:Tidy bad (S.entry d1 .dead):=bO h (fun t T xs e=>by cases e);have h3:=cz (L:=L) hN h2 hdL (.row e T (xs.take b.toNat)) (.own d);exact ⟨h1.trans h3.1,h3.2⟩
  ·unfold lv at he;split at he <;> try cases he
   split at he <;> try cases he
   split at he <;> try cases he
   split at he <;> simp only [Jg,Ny,reduceCtorEq] at he <;> obtain ⟨rfl,rfl⟩:=he;exact ⟨ii hdL _,ei h _ _⟩
  ·unfold mW at he;split at he <;> try cases he
   split at he <;> simp only [Jg,Ny,reduceCtorEq] at he <;> obtain ⟨rfl,rfl⟩:=he;exact cz hN h hdL _ _
  ·unfold sF at he;split at he <;> try cases he
   rename_i m _ _;split at he <;> try cases he
   rename_i k V l _;split at he <;> simp only [Jg,Ny,reduceCtorEq] at he <;> obtain ⟨rfl,rfl⟩:=he;rename_i hb;simp only [NA,NX] at hb;have h2:Tidy bad (S.entry m (.frozm k V l)):=bO h (fun t T xs e=>by cases e);have h3:=cz (L:=L) hN h2 hdL (.iter k V l none) (.loc d 0);exact ⟨(cM h hb.2 _).trans h3.1,h3.2⟩
  ·split at he <;> simp only [Jg,Ny,reduceCtorEq] at he <;> obtain ⟨rfl,rfl⟩:=he;exact ⟨ii hdL _,ei h _ _⟩
  ·cases he
theorem zk {P:Program} {ss:Specs} {ops:Array Oper} (hN:Named L bad) (h:Tidy bad S) {o:Oper} (hd:∀ d,o.dst=some d->L.contains d=true) {ps:List Prop} {S':St}
  (he:zu P ss ops o S=some (ps,S')):Fr L bad S S'/\Tidy bad S':=by
 unfold zu at he;split at he
 ·split at he
  ·rename_i hdst;split at he <;> simp only [Jg,Ny,reduceCtorEq] at he <;> obtain ⟨rfl,rfl⟩:=he;exact ⟨ii (hd _ hdst) _,ei h _ _⟩
  ·split at he
   ·rename_i x hx;injection he with he
    subst he;split at hx <;> try cases hx
    exact JV hN h hd hx
   ·split at he <;> try cases he
    rename_i hdst;split at he <;> simp only [Jg,Ny,reduceCtorEq] at he <;> obtain ⟨rfl,rfl⟩:=he;exact ⟨ii (hd _ hdst) _,ei h _ _⟩
 ·split at he <;> try cases he
  rename_i hdst;split at he <;> try cases he
  split at he <;> simp only [Jg,Ny,reduceCtorEq] at he <;> obtain ⟨rfl,rfl⟩:=he;exact ⟨ii (hd _ hdst) _,ei h _ _⟩
theorem uu {P:Program} {ss:Specs} {ops:Array Oper} (hN:Named L bad):∀ (os:List Oper) (S S':St) (ps:List Prop),Tidy bad S->(∀ o∈os,∀ d,o.dst=some d->L.contains d=true) ->
  run P ss ops os S=some (ps,S')->Fr L bad S S'/\Tidy bad S'
 | [],S,S',ps,h,_,he=>by
  simp only [run,Jg,Ny] at he;obtain ⟨_,rfl⟩:=he;exact ⟨Fr.refl _ _ _,h⟩
 | o::os,S,S',ps,h,hd,he=>by
  simp only [run] at he;split at he <;> try cases he
  rename_i ps1 S1 h1;split at he <;> simp only [Jg,Ny,reduceCtorEq] at he <;> obtain ⟨rfl,rfl⟩:=he;rename_i ps2 S2 h2;have k1:=zk hN h (hd o (by simp)) h1;have k2:=uu hN os S1 S2 ps2 k1.2 (fun o' ho'=>hd o' (by simp [ho'])) h2;exact ⟨k1.1.trans k2.1,k2.2⟩
theorem gA {x:AV} (h:x.noGd=true):x.opn []=x:=by cases x <;> first | (cases h; done) | rfl
theorem fy (h:Tidy bad S):Fr L bad S S.clean/\Tidy bad S.clean :=
 ⟨⟨rfl,rfl,fun _ _ hst=>gA hst.2,fun _ _ _=>rfl,fun _ _ env h=>⟨env,h,fun _ _=>rfl⟩⟩,⟨h.lock,h.row,h.frame⟩⟩
end
inductive BF where
 | dat (T:Ty)
 | own (e:TypeId) (T:Ty)
 | mpc (d:Nat)
 | lcc (d:Nat)
def BF.den:BF->Type
 | .dat T=>T.den
 | .own _ T=>List T.den
 | .mpc _=>Unit
 | .lcc _=>Unit
def BF.size:BF->Nat
 | .dat T=>T.size
 | .own _ _=>1
 | .mpc _=>1
 | .lcc _=>1
def BF.maps:BF->List Nat
 | .mpc d=>[d]
 | .lcc d=>[d]
 | _=>[]
def lO:List BF->Type
 | []=>Unit
 | [f]=>f.den
 | f::g::fs=>f.den×lO (g::fs)
inductive Cr where
 | dat (s:Nat) (T:Ty)
 | own (s:Nat) (e:TypeId) (T:Ty)
 | box (d:Nat) (T:Ty)
 | boxS (d:Nat) (fs:List BF)
 | same (s s':Nat)
 | part (s s':Nat) (T:Ty)
 | map (d:Nat) (k:IntKind) (V:Ty)
 | iter (d:Nat) (k:IntKind) (V:Ty)
 | mapS (d:Nat) (k:IntKind) (V:Ty) (e:TypeId) (T:Ty)
def Cr.den:Cr->Type
 | .dat _ T=>T.den
 | .own _ _ T=>List T.den
 | .box _ T=>T.den
 | .boxS _ fs=>lO fs
 | .same _ _=>Unit
 | .part _ _ _=>Nat×Nat
 | .map _ _ V=>List (Int×V.den)
 | .iter _ _ V=>List (Int×V.den)
 | .mapS _ _ V _ T=>Int×List (Int×Option V.den)×List T.den
def da:List Cr->Type
 | []=>Unit
 | [c]=>c.den
 | c::d::cs=>c.den×da (d::cs)
def AV.rowAt (S:St) (e:TypeId) (T:Ty):AV->Option (List T.den×Option Nat)
 | .nils=>some ([],none)
 | .own d=>match S.lh d with
  | some (.row e' T' xs)=>if h:T'=T then (if Nat.beq e' e&&!S.lock d then some (h ▸ xs,some d) else none) else none
  | _=>none
 | _=>none
def Lq:Nat:=1000000000000000000000000000000
def F5:Nat->Nat->Nat->Nat
 | 0,d,j=>d+1000000 * j+Lq
 | k+1,d,j=>bif Nat.beq (d % 1000000) 900000 then 1000000 * F5 k (d / 1000000) j+900000 else d+1000000 * j+Lq
def fe (d j:Nat):Nat:=F5 8 d j
def HX:Nat->Nat->Bool
 | 0,_=>false
 | k+1,n=>bif Nat.beq (n % 1000000) 900000 then HX k (n / 1000000) else Nat.ble Lq n
def zr (n:Nat):Bool:=HX 9 n
theorem xD:∀ (k n:Nat),HX k n=true->HX (k+1) n=true
 | 0,n,h=>by cases h
 | k+1,n,h=>by
  rw [HX] at h |-;cases hb:Nat.beq (n % 1000000) 900000
  ·rw [hb] at h; exact h
  ·rw [hb] at h; exact xD k _ h
def AV.rowFar (S:St) (e:TypeId) (T:Ty) (nm:Nat) (a:AV):Option (List T.den×Option Nat):=if zr nm=true then a.rowAt S e T else none
theorem kH {S:St} {e:TypeId} {T:Ty} {nm:Nat} {a:AV} {y:List T.den×Option Nat} (h:a.rowFar S e T nm=some y):a.rowAt S e T=some y:=by
 unfold AV.rowFar at h;split at h
 ·exact h
 ·cases h
theorem tt {S:St} {e:TypeId} {T:Ty} {nm:Nat} {a:AV} {y:List T.den×Option Nat} (h:a.rowFar S e T nm=some y):zr nm=true:=by
 unfold AV.rowFar at h;split at h
 ·assumption
 ·cases h
def BF.get (S:St) (nm:Nat) (f:BF) (a:AV):Option (f.den×List (Nat×Option Nat)) :=
 match f with
 | .dat T=>(a.toTy false S.lh T).map fun x=>(x,[])
 | .own e T=>(a.rowFar S e T nm).map fun x=>(x.1,[(nm,x.2)])
 | .mpc d=>match a with
  | .mp d'=>if Nat.beq d' d then some ((),[]) else none
  | _=>none
 | .lcc d=>match a with
  | .loc d' off=>if Nat.beq d' d&&Nat.beq off 0 then some ((),[]) else none
  | _=>none
def BF.av (nm:Nat):(f:BF)->f.den->AV
 | .dat T,x=>T.av x
 | .own _ _,_=>.own nm
 | .mpc d,_=>.mp d
 | .lcc d,_=>.loc d 0
def BF.row (nm:Nat):(f:BF)->f.den->Nat->Option LE
 | .dat _,_,_=>none
 | .own e T,xs,n=>if Nat.beq n nm then some (.row e T xs) else none
 | .mpc _,_,_=>none
 | .lcc _,_,_=>none
def pr (S:St) (d:Nat):Nat->(fs:List BF)->AV->Option (lO fs×List (Nat×Option Nat))
 | _,[],_=>none
 | j,[f],a=>f.get S (fe d j) a
 | j,f::g::fs,a=>match f.get S (fe d j) (a.take f.size),pr S d (j+1) (g::fs) (a.drop f.size) with
  | some (x,r1),some (y,r2)=>some ((x,y),r1++r2)
  | _,_=>none
def Np (d:Nat):Nat->(fs:List BF)->lO fs->AV
 | _,[],_=>.any
 | j,[f],x=>f.av (fe d j) x
 | j,f::g::fs,x=>(f.av (fe d j) x.1).app (Np d (j+1) (g::fs) x.2)
def tu (d:Nat):Nat->(fs:List BF)->lO fs->Nat->Option LE
 | _,[],_,_=>none
 | j,[f],x,n=>f.row (fe d j) x n
 | j,f::g::fs,x,n=>match f.row (fe d j) x.1 n with
  | some e=>some e
  | none=>tu d (j+1) (g::fs) x.2 n
def Cr.get (S:St):(c:Cr)->Option (c.den×List (Nat×Option Nat))
 | .dat s T=>((S.env s).toTy false S.lh T).map fun x=>(x,[])
 | .own s e T=>((S.env s).rowAt S e T).map fun x=>(x.1,[(s,x.2)])
 | .box d T=>match S.lh d with
  | some (.cells c)=>(c.toTy false S.lh T).map fun x=>(x,[])
  | _=>none
 | .boxS d fs=>match S.lh d with
  | some (.cells c)=>pr S d 0 fs c
  | _=>none
 | .same s s'=>match S.env s,S.env s' with
  | .own d,.own d'=>if Nat.beq d d' then some ((),[]) else none
  | _,_=>none
 | .part s s' T=>match S.env s,S.env s' with
  | .osl d T' i n,.own d'=>if T'=T then (if Nat.beq d d' then some ((i,n),[]) else none) else none
  | _,_=>none
 | .map d k V=>match S.lh d with
  | some (.mapp k' V' m)=>if h:k'=k/\V'=V then some ((h.2 ▸ m:List (Int×V.den)),[]) else none
  | _=>none
 | .iter d k V=>match S.lh d with
  | some (.iter k' V' m _)=>if h:k'=k/\V'=V then some ((h.2 ▸ m:List (Int×V.den)),[]) else none
  | _=>none
 | .mapS d k V e T=>match S.lh d with
  | some (.mapo k' V' m x c)=>if h:k'=k/\V'=V then (c.rowFar S e T (fe d 0)).map fun r=>((x,(h.2 ▸ m:List (Int×Option V.den)),r.1),[(fe d 0,r.2)]) else none
  | _=>none
def iO (S:St):(cs:List Cr)->Option (da cs×List (Nat×Option Nat))
 | []=>some ((),[])
 | [c]=>c.get S
 | c::d::cs=>match c.get S,iO S (d::cs) with
  | some (x,r1),some (y,r2)=>some ((x,y),r1++r2)
  | _,_=>none
def Cr.envOf (c:Cr) (x:c.den) (s:Nat):Option AV :=
 match c,x with
 | .dat s' T,x=>if Nat.beq s s' then some (T.av x) else none
 | .own s' _ _,_=>if Nat.beq s s' then some (.own s') else none
 | .same s1 s2,_=>if Nat.beq s s1 then some (.own s2) else none
 | .part s1 s2 T,x=>if Nat.beq s s1 then some (.osl s2 T x.1 x.2) else none
 | _,_=>none
def Cr.lhOf (c:Cr) (x:c.den) (d:Nat):Option LE :=
 match c,x with
 | .dat _ _,_=>none
 | .same _ _,_=>none
 | .part _ _ _,_=>none
 | .own s e T,xs=>if Nat.beq d s then some (.row e T xs) else none
 | .box d' T,x=>if Nat.beq d d' then some (.cells (T.av x)) else none
 | .map d' k V,m=>if Nat.beq d d' then some (.mapp k V m) else none
 | .iter d' k V,m=>if Nat.beq d d' then some (.iter k V m none) else none
 | .mapS d' k V e T,y=>if Nat.beq d d' then some (.mapo k V y.2.1 y.1 (.own (fe d' 0))) else if Nat.beq d (fe d' 0) then some (.row e T y.2.2) else none
 | .boxS d' fs,x=>if Nat.beq d d' then some (.cells (Np d' 0 fs x)) else tu d' 0 fs x d
def envOf:(cs:List Cr)->da cs->Nat->Option AV
 | [],_,_=>none
 | [c],x,s=>c.envOf x s
 | c::d::cs,x,s=>match c.envOf x.1 s with
  | some a=>some a
  | none=>envOf (d::cs) x.2 s
def lhOf:(cs:List Cr)->da cs->Nat->Option LE
 | [],_,_=>none
 | [c],x,s=>c.lhOf x s
 | c::d::cs,x,s=>match c.lhOf x.1 s with
  | some a=>some a
  | none=>lhOf (d::cs) x.2 s
def Cr.boxName:Cr->List Nat
 | .box d _=>[d]
 | .boxS d _=>[d]
 | .map d _ _=>[d]
 | .iter d _ _=>[d]
 | .mapS d _ _ _ _=>[d]
 | _=>[]
def Cr.twin:Cr->Option Nat
 | .same _ s'=>some s'
 | .part _ s' _=>some s'
 | _=>none
def Cr.maps:Cr->List Nat
 | .boxS _ fs=>fs.flatMap BF.maps
 | _=>[]
def ID (cs:List Cr):Bool:=cs.all fun c=>match c.twin with
 | some s'=>cs.any fun c'=>match c' with
  | .own s'' _ _=>Nat.beq s'' s'
  | _=>false
 | none=>true
def D5 (cs:List Cr):Bool:=ID cs
def bw (L X:List Nat) (n:Nat):Bool:=L.contains (n % 1000000)||X.contains n||zr n
def bc (ren:List (Nat×Option Nat)):List Nat:=ren.flatMap fun x=>x.1::x.2.toList
def yD (ren:List (Nat×Option Nat)):List Nat:=ren.flatMap fun x=>x.2.toList
def kS:List Nat->Bool
 | []=>true
 | x::xs=>!xs.contains x&&kS xs
def a7 (S:St) (L X:List Nat) (cs:List Cr) (x:da cs):St :=
 { env:=fun s=>match envOf cs x s with
   | some a=>a
   | none=>bif L.contains s then .any else ((S.env s).scrub (bw L X)).opn []
   lh:=fun d=>match lhOf cs x d with
    | some e=>some e
    | none=>bif bw L X d then none else (S.lh d).map (LE.scrub (bw L X))
   n:=S.n
   lock:=fun d=>!bw L X d&&!(cs.flatMap Cr.boxName).contains d }
def EX (S:St) (L X:List Nat) (cs:List Cr) (ren:List (Nat×Option Nat)):Bool :=
 (bc ren).all (bw L X)&&kS (yD ren)&&kS (ren.map (·.1)) &&
 (cs.flatMap Cr.boxName).all (fun d=>!bw L X d&&!S.lock d)&&(cs.flatMap Cr.maps).all (fun d=>!bw L X d)
section
variable {M:Nat->Prop} {p0:PH} {w0:World} {S:St} {tm:Array Value} {w:World} {p:PH} {β:Nat->Value}
def Ck (β:Nat->Value):Option Nat->Value
 | some d=>β d
 | none=>.slice none 0 0
def zZ (β β':Nat->Value) (ren:List (Nat×Option Nat)):Prop:=∀ x∈ren,β' x.1=Ck β x.2
theorem iB (hS:SatB M p0 w0 S tm w p β) {e:TypeId} {T:Ty} {a:AV} {xs:List T.den} {src:Option Nat} (h:a.rowAt S e T=some (xs,src)) :
  (∀ v,a.one p β v->v=Ck β src)/\(∃ l,w.ownsRow 0 e T.size (Ck β src) xs.length l/\aK (T.holds p) xs l/\xs.length * T.bytes<=aL) /\
   (∀ d,src=some d->S.lh d=some (.row e T xs)/\S.lock d=false):=by
 cases a <;> simp only [AV.rowAt,reduceCtorEq] at h
 ·simp only [Jg,Ny] at h;obtain ⟨rfl,rfl⟩:=h;exact ⟨fun v hv=>hv,⟨[],PE w 0 e T.size,rfl,by simp⟩,fun d hd=>by cases hd⟩
 ·rename_i d;split at h <;> try cases h
  rename_i e' T' ys hd;split at h <;> try cases h
  rename_i hT;subst hT;split at h <;> simp only [Jg,Ny,reduceCtorEq] at h <;> obtain ⟨rfl,rfl⟩:=h;rename_i hb;simp only [NA,NX] at hb;have:=Nz hb.1;subst this;exact ⟨fun v hv=>hv,hS.lhs d _ hd,fun d' hd'=>by injection hd' with hd'; subst hd'; exact ⟨hd,hb.2⟩⟩
theorem LF {T:Ty} {x:T.den} {a:AV} {v:Value} {β':Nat->Value} (hS:SatB M p0 w0 S tm w p β) (h:a.toTy false S.lh T=some x) (ha:a.val p β tm v):(T.av x).val p β' tm v:=by
 have h1:=cI hS (rows:=false) h ha;simp only [NJ,N4] at h1;exact AV.val_of_val1 (dt (tm:=tm) h1)
theorem FW (hS:SatB M p0 w0 S tm w p β) {β':Nat->Value} {c:Cr} {x:c.den} {ren:List (Nat×Option Nat)} (h:c.get S=some (x,ren)) (hf:zZ β β' ren) (hsm:∀ s' d,c.twin=some s'->S.env s'=.own d->β' s'=β d) {s:Nat} {a:AV} (he:c.envOf x s=some a) :
  a.val p β' tm (tm.getD s undef):=by
 cases c with
 | dat s' T =>
  obtain ⟨y,hy,h0⟩:=NB.1 h;injection h0 with h0 h00
  subst h0;subst h00;simp only [Cr.envOf] at he;split at he <;> simp only [Jg,reduceCtorEq] at he;rename_i hs;have:=Nz hs;subst this;subst he;exact LF hS hy (hS.env s)
 | own s' e T =>
  obtain ⟨y,hy,h0⟩:=NB.1 h;injection h0 with h0 h00
  subst h0;subst h00;simp only [Cr.envOf] at he;split at he <;> simp only [Jg,reduceCtorEq] at he;rename_i hs;have:=Nz hs;subst this;subst he;have h1:=(iB hS (xs:=y.1) (src:=y.2) hy).1;have h2:=hf (s,y.2) (by simp);have h3:=hS.env s;show tm.getD s undef=β' s;rw [h2];apply h1
  have hl:∀ (a:AV) (v:Value),a.rowAt S e T=some y->a.val p β tm v->a.one p β v:=by
   intro a v ha hv;cases a <;> first | exact hv | (simp [AV.rowAt] at ha; done)
  exact hl _ _ hy h3
 | box d T=>simp [Cr.envOf] at he
 | boxS d fs=>simp [Cr.envOf] at he
 | map d k V=>simp [Cr.envOf] at he
 | iter d k V=>simp [Cr.envOf] at he
 | mapS d k V e T=>simp [Cr.envOf] at he
 | same s1 s2 =>
  simp only [Cr.envOf] at he;split at he <;> simp only [Jg,reduceCtorEq] at he;rename_i hs;have:=Nz hs;subst this;subst he;simp only [Cr.get] at h;split at h <;> try cases h
  rename_i d d' h1 h2;split at h <;> try cases h
  rename_i hd;have:=Nz hd;subst this;have h3:=hS.env s;rw [h1] at h3;show tm.getD s undef=β' s2;rw [hsm _ _ rfl h2];exact h3
 | part s1 s2 T =>
  simp only [Cr.envOf] at he;split at he <;> simp only [Jg,reduceCtorEq] at he;rename_i hs;have:=Nz hs;subst this;subst he;simp only [Cr.get] at h;split at h <;> try cases h
  rename_i d T' i n d' h1 h2;split at h <;> try cases h
  rename_i hT;subst hT;split at h <;> simp only [Jg,reduceCtorEq] at h;rename_i hd;have:=Nz hd;subst this;injection h with h h0
  subst h;subst h0;have h3:=hS.env s;rw [h1] at h3;have h4:=hsm _ _ rfl h2;have h3:(∃ b m c c',β d=.slice (some ⟨b,0,none⟩) m c/\tm.getD s undef=.slice (some ⟨b,i * T'.size,none⟩) n c')\/(n=0/\∃ A c,tm.getD s undef=.slice A 0 c):=h3;show (∃ b m c c',β' s2=.slice (some ⟨b,0,none⟩) m c/\tm.getD s undef=.slice (some ⟨b,i * T'.size,none⟩) n c')\/(n=0/\∃ A c,tm.getD s undef=.slice A 0 c);rw [h4];exact h3
def C6 (S:St) (β β':Nat->Value) (ren:List (Nat×Option Nat)) (boxes:List Nat) (d:Nat):Prop :=
 ∀ b,bT (β' d)=some b->∃ d0 e0,S.lh d0=some e0/\e0.live=true/\bT (β d0)=some b/\((d0=d/\d∈boxes)\/(d,some d0)∈ren)
theorem Kc:∀ (k:Nat) (a:AV),a.len<=k->0<k->a.drop k=.any:=by
 intro k
 induction k with
 | zero=>intro a _ h; omega
 | succ k ih =>
  intro a hle _;cases a <;> simp only [AV.drop];rename_i x y;simp only [AV.len] at hle;rcases Nat.eq_zero_or_pos k with hk | hk
  ·subst hk;cases y <;> simp only [AV.len] at hle <;> omega
  ·exact ih y (by omega) hk
theorem BF.size_pos (f:BF):0<f.size:=by
 cases f with
 | dat T=>exact Ty.size_pos T
 | own e T=>simp [BF.size]
 | mpc d=>simp [BF.size]
 | lcc d=>simp [BF.size]
theorem BF.get_any (S:St) (nm:Nat) (f:BF):f.get S nm .any=none:=by
 cases f with
 | dat T=>simp only [BF.get,kD]; rfl
 | own e T=>simp only [BF.get,AV.rowFar,AV.rowAt]; split <;> rfl
 | mpc d=>rfl
 | lcc d=>rfl
theorem JS (S:St) (d:Nat):∀ (fs:List BF) (j:Nat),pr S d j fs .any=none
 | [],_=>rfl
 | [f],j=>BF.get_any S _ f
 | f::g::fs,j=>by simp only [pr,Ay,BF.get_any]
theorem BF.get_cells (hS:SatB M p0 w0 S tm w p β) {β':Nat->Value} {f:BF} {nm:Nat} {a:AV} {x:f.den} {ren:List (Nat×Option Nat)} (h:f.get S nm a=some (x,ren)) (hf:zZ β β' ren) (hm:∀ d∈f.maps,β' d=β d) {cs:List Value} (hc:a.cells p β cs) :
  (f.av nm x).cells p β' cs:=by
 cases f with
 | dat T =>
  obtain ⟨y,hy,h0⟩:=NB.1 h;injection h0 with h0 h00
  subst h0;subst h00;have h5:=a6 hS (rows:=false) T _ y _ hy hc;simp only [NJ,N4] at h5;exact Ty.av_cells T y _ h5
 | own e T =>
  obtain ⟨y,hy,h0⟩:=NB.1 h;injection h0 with h0 h00
  subst h0;subst h00;have hy:=kH hy;obtain ⟨h1,_,_⟩:=iB hS (xs:=y.1) (src:=y.2) hy;have h4:=hf (nm,y.2) (by simp);simp only at h4
  have hl:∃ v,cs=[v]/\a.one p β v:=by
   cases a <;> (first | (simp [AV.rowAt] at hy; done) | exact (AV.cells_leaf _ (by intro x y e; cases e) _).1 hc)
  obtain ⟨v,rfl,hone⟩:=hl;exact AV.one_cells (p:=p) (a:=.own nm) (by show v=β' nm; rw [h4]; exact h1 v hone)
 | mpc d =>
  simp only [BF.get] at h;split at h <;> try cases h
  rename_i d';split at h <;> simp only [Jg,reduceCtorEq] at h;rename_i hd;have:=Nz hd;subst this;obtain ⟨v,rfl,hone⟩:∃ v,cs=[v]/\(AV.mp d').one p β v:=(AV.cells_leaf _ (by intro x y e; cases e) _).1 hc;exact AV.one_cells (p:=p) (a:=.mp d') (by show v=β' d'; rw [hm d' (by simp [BF.maps])]; exact hone)
 | lcc d =>
  simp only [BF.get] at h;split at h <;> try cases h
  rename_i d' off;split at h <;> simp only [Jg,reduceCtorEq] at h;rename_i hd;simp only [NA] at hd;have h1:=Nz hd.1;have h2:=Nz hd.2;subst h1 h2;obtain ⟨v,rfl,hone⟩:∃ v,cs=[v]/\(AV.loc d' 0).one p β v:=(AV.cells_leaf _ (by intro x y e; cases e) _).1 hc;obtain ⟨b,e1,e2⟩:=hone;exact AV.one_cells (p:=p) (a:=.loc d' 0) ⟨b,by rw [hm d' (by simp [BF.maps])]; exact e1,e2⟩
theorem us (hS:SatB M p0 w0 S tm w p β) {β':Nat->Value} {d:Nat}:∀ (fs:List BF) (j:Nat) (a:AV) (x:lO fs) (ren:List (Nat×Option Nat)) (cs:List Value),pr S d j fs a=some (x,ren)->zZ β β' ren->(∀ d∈fs.flatMap BF.maps,β' d=β d)->a.cells p β cs ->
  (Np d j fs x).cells p β' cs
 | [],_,_,_,_,_,h,_,_,_=>by cases h
 | [f],j,a,x,ren,cs,h,hf,hm,hc=>BF.get_cells hS h hf (fun d hd=>hm d (by simpa using hd)) hc
 | f::g::fs,j,a,x,ren,cs,h,hf,hm,hc=>by
  unfold pr at h;split at h <;> simp only [Jg,reduceCtorEq] at h;rename_i y r1 z r2 h1 h2;injection h with ha hb
  subst ha;subst hb;have hpos:=BF.size_pos f;have hl:=AV.len_cells a cs hc
  have key:f.size<cs.length:=by
   rcases NW f.size cs.length with hlt | hge
   ·exact hlt
   ·exfalso;rw [Kc f.size a (by omega) hpos,JS] at h2;cases h2
  have k1:=BF.get_cells hS h1 (fun z hz=>hf z (ND _ hz)) (fun d hd=>hm d (by rw [On]; exact ND _ hd)) (AV.cells_take _ a cs hc hpos (by omega));have k2:=us hS (g::fs) (j+1) _ z r2 _ h2 (fun z hz=>hf z (NF _ hz)) (fun d hd=>hm d (by rw [On]; exact NF _ hd)) (AV.cells_drop _ a cs hc key);have:=AV.cells_app _ _ _ _ k1 k2
  rwa [OD] at this
theorem BF.get_row (hS:SatB M p0 w0 S tm w p β) {β':Nat->Value} {f:BF} {nm:Nat} {a:AV} {x:f.den} {ren ren0:List (Nat×Option Nat)} {boxes:List Nat} (h:f.get S nm a=some (x,ren)) (hf:zZ β β' ren) (hr:∀ z∈ren,z∈ren0) {n:Nat} {e:LE}
  (he:f.row nm x n=some e):e.sat p β' w n/\C6 S β β' ren0 boxes n/\n∈ren.map (·.1):=by
 cases f with
 | dat T=>cases he
 | mpc d=>cases he
 | lcc d=>cases he
 | own t T =>
  obtain ⟨y,hy,h0⟩:=NB.1 h;injection h0 with h0 h00
  subst h0;subst h00;have hy:=kH hy;obtain ⟨_,h2,h3⟩:=iB hS (xs:=y.1) (src:=y.2) hy;have h4:=hf (nm,y.2) (by simp);simp only at h4;simp only [BF.row] at he;split at he <;> simp only [Jg,reduceCtorEq] at he;rename_i hs;have:=Nz hs;subst this;subst he;refine ⟨by simpa only [LE.sat,h4] using h2,fun b hb=>?_,by simp⟩;rw [h4] at hb;cases hsrc:y.2 with
  | none=>rw [hsrc] at hb; cases hb
  | some d0 =>
   rw [hsrc] at hb;exact ⟨d0,_,(h3 d0 hsrc).1,rfl,hb,.inr (hr _ (by rw [<- hsrc]; simp))⟩
theorem Cm (hS:SatB M p0 w0 S tm w p β) {β':Nat->Value} {d:Nat} {ren0:List (Nat×Option Nat)} {boxes:List Nat}:∀ (fs:List BF) (j:Nat) (a:AV) (x:lO fs) (ren:List (Nat×Option Nat)),pr S d j fs a=some (x,ren)->zZ β β' ren->(∀ z∈ren,z∈ren0) ->
  ∀ {n:Nat} {e:LE},tu d j fs x n=some e->e.sat p β' w n/\C6 S β β' ren0 boxes n/\n∈ren.map (·.1)
 | [],_,_,_,_,h,_,_,_,_,_=>by cases h
 | [f],j,a,x,ren,h,hf,hr,n,e,he=>BF.get_row hS h hf hr he
 | f::g::fs,j,a,x,ren,h,hf,hr,n,e,he=>by
  unfold pr at h;split at h <;> simp only [Jg,reduceCtorEq] at h;rename_i y r1 z r2 h1 h2;injection h with ha hb
  subst ha;subst hb;simp only [tu] at he;split at he
  ·rename_i e' he';injection he with he
   subst he;obtain ⟨k1,k2,k3⟩:=BF.get_row (boxes:=boxes) hS h1 (fun z hz=>hf z (ND _ hz)) (fun z hz=>hr z (ND _ hz)) he';exact ⟨k1,k2,by rw [Ot]; exact ND _ k3⟩
  ·obtain ⟨k1,k2,k3⟩:=Cm (boxes:=boxes) hS (g::fs) (j+1) _ z r2 h2 (fun z hz=>hf z (NF _ hz)) (fun z hz=>hr z (NF _ hz)) he;exact ⟨k1,k2,by rw [Ot]; exact NF _ k3⟩
theorem u0 {S:St} {d:Nat} {fs:List BF} {x:lO fs} {ren:List (Nat×Option Nat)} (h:(Cr.boxS d fs).get S=some (x,ren)):∃ c,S.lh d=some (.cells c)/\pr S d 0 fs c=some (x,ren):=by
 have h':(match S.lh d with
  | some (.cells c)=>pr S d 0 fs c
  | _=>none)=some (x,ren):=h
 split at h'
 ·rename_i c hc;exact ⟨c,hc,h'⟩
 ·cases h'
theorem JR (hS:SatB M p0 w0 S tm w p β) {β':Nat->Value} {c:Cr} {x:c.den} {ren:List (Nat×Option Nat)} (h:c.get S=some (x,ren)) (hf:zZ β β' ren) (hbox:∀ d∈c.boxName,β' d=β d) (hmp:∀ d∈c.maps,β' d=β d)
  {d:Nat} {e:LE} (he:c.lhOf x d=some e):e.sat p β' w d/\C6 S β β' ren c.boxName d/\(∀ t T xs,e=.row t T xs->d∈ren.map (·.1)):=by
 have own_of:∀ {nm:Nat} {src:Option Nat} {boxes:List Nat} {e:TypeId} {T:Ty} {xs:List T.den},β' nm=Ck β src->(nm,src)∈ren->(∀ d,src=some d->S.lh d=some (.row e T xs)/\S.lock d=false)->C6 S β β' ren boxes nm:=by
  intro nm src boxes e T xs h1 h2 h3 b hb;rw [h1] at hb;cases src with
  | none=>cases hb
  | some d0=>exact ⟨d0,_,(h3 d0 rfl).1,rfl,hb,.inr h2⟩
 cases c with
 | dat s' T=>simp [Cr.lhOf] at he
 | same _ _=>simp [Cr.lhOf] at he
 | part _ _ _=>simp [Cr.lhOf] at he
 | own s' t T =>
  obtain ⟨y,hy,h0⟩:=NB.1 h;injection h0 with h0 h00
  subst h0;subst h00;simp only [Cr.lhOf] at he;split at he <;> simp only [Jg,reduceCtorEq] at he;rename_i hs;have:=Nz hs;subst this;subst he;obtain ⟨_,h2,h3⟩:=iB hS (xs:=y.1) (src:=y.2) hy;have h4:=hf (d,y.2) (by simp);simp only at h4;refine ⟨by simpa only [LE.sat,h4] using h2,own_of h4 (by simp) h3,fun _ _ _ _=>by simp⟩
 | box d' T =>
  unfold Cr.get at h;simp only at h;split at h
  case h_2=>cases h
  rename_i c' hc;obtain ⟨y,hy,h0⟩:=NB.1 h;injection h0 with h0 h00
  subst h0;subst h00;simp only [Cr.lhOf] at he;split at he <;> simp only [Jg,reduceCtorEq] at he;rename_i hs;have:=Nz hs;subst this;subst he;have hb:=hbox d (by simp [Cr.boxName]);obtain ⟨b,cs,ty,e1,e2,e3⟩:=hS.lhs d _ hc;have h5:=a6 hS (rows:=false) T _ y _ hy e3;simp only [NJ,N4] at h5;refine ⟨⟨b,cs,ty,hb.trans e1,e2,Ty.av_cells T y _ h5⟩,fun b' hb'=>⟨d,_,hc,rfl,by rw [<- hb]; exact hb',.inl ⟨rfl,by simp [Cr.boxName]⟩⟩,fun _ _ _ h=>by cases h⟩
 | map d' k V =>
  unfold Cr.get at h;simp only at h;split at h <;> try cases h
  rename_i k' V' m hc;split at h <;> try cases h
  rename_i hT;obtain ⟨rfl,rfl⟩:=hT;simp only [Cr.lhOf] at he;split at he <;> simp only [Jg,reduceCtorEq] at he;rename_i hs;have:=Nz hs;subst this;subst he;have hb:=hbox d (by simp [Cr.boxName]);obtain ⟨r,es,clock,e1,e2⟩:=hS.lhs d _ hc;refine ⟨⟨r,es,clock,hb.trans e1,e2⟩,fun b' hb'=>⟨d,_,hc,rfl,by rw [<- hb]; exact hb',.inl ⟨rfl,by simp [Cr.boxName]⟩⟩,fun _ _ _ h=>by cases h⟩
 | iter d' k V =>
  unfold Cr.get at h;simp only at h;split at h <;> try cases h
  rename_i k' V' m cur hc;split at h <;> try cases h
  rename_i hT;obtain ⟨rfl,rfl⟩:=hT;simp only [Cr.lhOf] at he;split at he <;> simp only [Jg,reduceCtorEq] at he;rename_i hs;have:=Nz hs;subst this;subst he;have hb:=hbox d (by simp [Cr.boxName]);obtain ⟨r,bm,since,seen,c0,es,clock,e1,e2,e3,e4,e5,e6,e7,e8,_⟩:=hS.lhs d _ hc;refine ⟨⟨r,bm,since,seen,c0,es,clock,hb.trans e1,e2,e3,e4,e5,e6,e7,e8,fun x hx=>by cases hx⟩,fun b' hb'=>⟨d,_,hc,rfl,by rw [<- hb]; exact hb',.inl ⟨rfl,by simp [Cr.boxName]⟩⟩,fun _ _ _ h=>by cases h⟩
 | mapS d' k V t T =>
  unfold Cr.get at h;simp only at h;split at h <;> try cases h
  rename_i k' V' m x0 c hc;split at h <;> try cases h
  rename_i hT;obtain ⟨rfl,rfl⟩:=hT;obtain ⟨y,hy,h0⟩:=NB.1 h;injection h0 with h0 h00
  subst h0;subst h00;have hy:=kH hy;obtain ⟨h1,h2,h3⟩:=iB hS (xs:=y.1) (src:=y.2) hy;have h4:=hf (fe d' 0,y.2) (by simp);simp only at h4;simp only [Cr.lhOf] at he;split at he
  ·rename_i hs;have:=Nz hs;subst this;injection he with he
   subst he;have hb:=hbox d (by simp [Cr.boxName]);obtain ⟨r,es,clock,e1,e2,e3,e4,e5⟩:=hS.lhs d _ hc;refine ⟨⟨r,es,clock,hb.trans e1,e2,e3,e4,b6 (fun o v hv=>?_) _ _ e5⟩,fun b' hb'=>⟨d,_,hc,rfl,by rw [<- hb]; exact hb',.inl ⟨rfl,by simp [Cr.boxName]⟩⟩,fun _ _ _ h=>by cases h⟩;cases o with
   | some z=>exact hv
   | none =>
    show v=β' (fe d 0);rw [h4];exact h1 v hv
  ·split at he <;> simp only [Jg,reduceCtorEq] at he;rename_i hs;have:=Nz hs;subst this;subst he;exact ⟨by simpa only [LE.sat,h4] using h2,own_of h4 (by simp) h3,fun _ _ _ _=>by simp⟩
 | boxS d' fs =>
  have hx:=u0 h;obtain ⟨c',hc,h⟩:=hx;have hb:=hbox d' (by simp [Cr.boxName]);simp only [Cr.lhOf] at he;split at he
  ·simp only [Jg] at he;rename_i hs;have:=Nz hs;subst this;subst he;obtain ⟨b,cs,ty,e1,e2,e3⟩:=hS.lhs d _ hc;exact ⟨⟨b,cs,ty,hb.trans e1,e2,us hS fs 0 c' x ren _ h hf hmp e3⟩,fun b' hb'=>⟨d,_,hc,rfl,by rw [<- hb]; exact hb',.inl ⟨rfl,by simp [Cr.boxName]⟩⟩,fun _ _ _ h=>by cases h⟩
  ·obtain ⟨k1,k2,k3⟩:=Cm hS fs 0 c' x ren h hf (fun _ h=>h) he;exact ⟨k1,k2,fun _ _ _ _=>k3⟩
theorem Cl (hS:SatB M p0 w0 S tm w p β) {β':Nat->Value}:∀ (cs:List Cr) (x:da cs) (ren:List (Nat×Option Nat)),iO S cs=some (x,ren)->zZ β β' ren->(∀ c s' d,c∈cs->c.twin=some s'->S.env s'=.own d->β' s'=β d)->∀ {s:Nat} {a:AV},envOf cs x s=some a ->
  a.val p β' tm (tm.getD s undef)
 | [],_,_,_,_,_,_,_,he=>by cases he
 | [c],x,ren,h,hf,hsm,_,_,he=>FW hS h hf (fun s' d e=>hsm _ s' d (by simp) e) he
 | c::d::cs,x,ren,h,hf,hsm,s,a,he=>by
  unfold iO at h;split at h <;> try cases h
  rename_i x1 r1 y r2 h1 h2;simp only [envOf] at he;split at he
  ·rename_i a' ha;injection he with he
   subst he;exact FW hS h1 (fun z hz=>hf z (ND _ hz)) (fun s' d e=>hsm _ s' d (by simp) e) ha
  ·exact Cl hS (d::cs) y r2 h2 (fun z hz=>hf z (NF _ hz)) (fun c s' d hm=>hsm c s' d (NT _ hm)) he
theorem FV (hS:SatB M p0 w0 S tm w p β) {β':Nat->Value}:∀ (cs:List Cr) (x:da cs) (ren:List (Nat×Option Nat)),iO S cs=some (x,ren)->zZ β β' ren->(∀ d∈cs.flatMap Cr.boxName,β' d=β d)->(∀ d∈cs.flatMap Cr.maps,β' d=β d) ->
  ∀ {d:Nat} {e:LE},lhOf cs x d=some e->e.sat p β' w d/\C6 S β β' ren (cs.flatMap Cr.boxName) d/\(∀ t T xs,e=.row t T xs->d∈ren.map (·.1))
 | [],_,_,_,_,_,_,_,_,he=>by cases he
 | [c],x,ren,h,hf,hb,hmp,d,e,he=>by
  obtain ⟨h1,h2,h3⟩:=JR hS h hf (fun d hd=>hb d (by simpa using hd)) (fun d hd=>hmp d (by simpa using hd)) he;refine ⟨h1,fun b hb'=>?_,h3⟩;obtain ⟨d0,e0,k1,k2,k3,k4⟩:=h2 b hb';exact ⟨d0,e0,k1,k2,k3,k4.imp (fun k=>⟨k.1,by simpa using k.2⟩) id⟩
 | c::d'::cs,x,ren,h,hf,hb,hmp,d,e,he=>by
  unfold iO at h;split at h <;> try cases h
  rename_i x1 r1 y r2 h1 h2;simp only [lhOf] at he;split at he
  ·rename_i a' ha;injection he with he
   subst he;obtain ⟨k1,k2,k3⟩:=JR hS h1 (fun z hz=>hf z (ND _ hz)) (fun d hd=>hb d (by simp only [On]; exact ND _ hd)) (fun d hd=>hmp d (by simp only [On]; exact ND _ hd)) ha;refine ⟨k1,fun b hb'=>?_,fun t T xs e=>by simp only [Ot]; exact ND _ (k3 t T xs e)⟩;obtain ⟨d0,e0,q1,q2,q3,q4⟩:=k2 b hb';exact ⟨d0,e0,q1,q2,q3,q4.imp (fun k=>⟨k.1,by simp only [On]; exact ND _ k.2⟩) (fun k=>ND _ k)⟩
  ·obtain ⟨k1,k2,k3⟩:=FV hS (d'::cs) y r2 h2 (fun z hz=>hf z (NF _ hz)) (fun d hd=>hb d (by rw [On]; exact NF _ hd)) (fun d hd=>hmp d (by rw [On]; exact NF _ hd)) he;refine ⟨k1,fun b hb'=>?_,fun t T xs e=>by simp only [Ot]; exact NF _ (k3 t T xs e)⟩;obtain ⟨d0,e0,q1,q2,q3,q4⟩:=k2 b hb';exact ⟨d0,e0,q1,q2,q3,q4.imp (fun k=>⟨k.1,by rw [On]; exact NF _ k.2⟩) (fun k=>NF _ k)⟩
end
section
variable {M:Nat->Prop} {p0:PH} {w0:World} {S:St} {tm:Array Value} {w:World} {p:PH} {β:Nat->Value}
def eT (β:Nat->Value):List (Nat×Option Nat)->Nat->Value
 | [],n=>β n
 | (k,src)::r,n=>if n=k then Ck β src else eT β r n
theorem g7:∀ {l:List Nat},kS l=true->l.Nodup
 | [],_=>List.nodup_nil
 | x::xs,h=>by
  simp only [kS,NA,NX] at h;refine PB.2 ⟨fun hm=>?_,g7 h.2⟩;have:=N1.2 hm;rw [h.1] at this;cases this
theorem nk:∀ (ren:List (Nat×Option Nat)),(ren.map (·.1)).Nodup->zZ β (eT β ren) ren
 | [],_=>by intro x hx; cases hx
 | (k,src)::r,h=>by
  simp only [Oi,PB] at h;intro x hx;rcases NG.1 hx with rfl | hx
  ·simp [eT]
  ·have hne:x.1≠k:=by
    intro e;exact h.1 (NZ.2 ⟨x,hx,e⟩)
   simp only [eT,hne,N4];exact nk r h.2 x hx
theorem mi:∀ (ren:List (Nat×Option Nat)) (n:Nat),(∀ x∈ren,x.1≠n)->eT β ren n=β n
 | [],_,_=>rfl
 | (k,src)::r,n,h=>by
  have h1:=h (k,src) (by simp);simp only [eT,Ne.symm h1,N4];exact mi r n (fun x hx=>h x (by simp [hx]))
theorem fI {ren:List (Nat×Option Nat)} {x:Nat×Option Nat} (h:x∈ren):x.1∈bc ren/\∀ d,x.2=some d->d∈bc ren:=by
 unfold bc;refine ⟨Px.2 ⟨x,h,by simp⟩,fun d hd=>Px.2 ⟨x,h,by simp [hd]⟩⟩
theorem qU:∀ (ren:List (Nat×Option Nat)),(yD ren).Nodup->∀ {d d' d0:Nat},(d,some d0)∈ren->(d',some d0)∈ren->d=d'
 | [],_,_,_,_,h,_=>by cases h
 | (k,src)::r,hn,d,d',d0,h,h'=>by
  simp only [yD,On] at hn;have hn':=Qg.1 hn;have mem:∀ {d},(d,some d0)∈r->d0∈r.flatMap (fun x=>x.2.toList):=fun hm=>Px.2 ⟨_,hm,by simp⟩
  rcases NG.1 h with e | h <;> rcases NG.1 h' with e' | h'
  ·rw [Ny] at e e'; rw [e.1,e'.1]
  ·rw [Ny] at e;exact absurd rfl (hn'.2.2 d0 (by rw [<- e.2]; simp) d0 (mem h'))
  ·rw [Ny] at e';exact absurd rfl (hn'.2.2 d0 (by rw [<- e'.2]; simp) d0 (mem h))
  ·exact qU r hn'.2.1 h h'
theorem JQ:∀ (cs:List Cr) (x:da cs) (ren:List (Nat×Option Nat)),iO S cs=some (x,ren)->∀ s e T d,Cr.own s e T∈cs->S.env s=.own d->(s,some d)∈ren:=by
 have one:∀ (c:Cr) (x:c.den) (ren:List (Nat×Option Nat)),c.get S=some (x,ren)->∀ s e T d,c=.own s e T->S.env s=.own d->(s,some d)∈ren:=by
  intro c x ren h s e T d hc hd;subst hc;obtain ⟨y,hy,h0⟩:=NB.1 h;injection h0 with _ h00
  subst h00;rw [hd] at hy;simp only [AV.rowAt] at hy;split at hy <;> try cases hy
  split at hy <;> try cases hy
  split at hy <;> simp only [Jg,reduceCtorEq] at hy;subst hy;simp
 intro cs
 induction cs with
 | nil=>intro x ren _ s e T d hm; cases hm
 | cons c cs ih =>
  intro x ren h s e T d hm hd;cases cs with
  | nil =>
   simp only [NL] at hm;exact one c x ren h s e T d hm.symm hd
  | cons c' cs =>
   unfold iO at h;split at h <;> try cases h
   rename_i x1 r1 y r2 h1 h2;rcases NG.1 hm with hm | hm
   ·exact ND _ (one c x1 r1 h1 s e T d hm.symm hd)
   ·exact NF _ (ih y r2 h2 s e T d hm hd)
theorem yP {L X:List Nat} {cs:List Cr} {x:da cs} {ren:List (Nat×Option Nat)} (hS:SatB M p0 w0 S tm w p β) (hg:iO S cs=some (x,ren)) (hc:EX S L X cs ren=true) (hsi:D5 cs=true) :
  SatB M p0 w0 (a7 S L X cs x) tm w p (eT β ren):=by
 simp only [EX,NA] at hc;obtain ⟨⟨⟨⟨hnames,hsrc⟩,hkeys⟩,hboxes⟩,hmi⟩:=hc;have hsrc:=g7 hsrc;have hfits:=nk (β:=β) ren (g7 hkeys);have hbad:∀ n∈bc ren,bw L X n=true:=fun n hn=>NH.1 hnames n hn
 have hβ:∀ n,bw L X n=false->eT β ren n=β n:=fun n hn=>mi ren n (fun y hy e=>by
  have:=hbad _ (fI hy).1;rw [e,hn] at this;cases this)
 have hbx:∀ d∈cs.flatMap Cr.boxName,bw L X d=false/\S.lock d=false:=fun d hd=>by
  have:=NH.1 hboxes d hd;simpa using this
 have hboxβ:∀ d∈cs.flatMap Cr.boxName,eT β ren d=β d:=fun d hd=>hβ d (hbx d hd).1
 have htw:ID cs=true:=hsi;have hmapβ:∀ d∈cs.flatMap Cr.maps,eT β ren d=β d:=fun d hd=>hβ d (by simpa using NH.1 hmi d hd)
 have hsame:∀ c s' d,c∈cs->c.twin=some s'->S.env s'=.own d->eT β ren s'=β d:=fun c s' d hm ht hd=>by
  have h1:=NH.1 htw _ hm;simp only [ht] at h1;obtain ⟨c',hc',h2⟩:=OK.1 h1;cases c' <;> simp only [NJ] at h2;rename_i s'' e T;have h3:=Nz h2;subst h3;exact hfits _ (JQ cs x ren hg _ _ _ d hc' hd)
 have genv:=fun {s:Nat} {a:AV}=>Cl hS cs x ren hg hfits hsame (s:=s) (a:=a)
 have glh:=fun {d:Nat} {e:LE}=>FV hS cs x ren hg hfits hboxβ hmapβ (d:=d) (e:=e)
 have owner:∀ d e b,(a7 S L X cs x).lh d=some e->e.live=true->bT (eT β ren d)=some b->∃ d0 e0,S.lh d0=some e0/\e0.live=true/\bT (β d0)=some b/\((d0=d/\bw L X d=false)\/(d,some d0)∈ren):=by
  intro d e b hd hl hb;simp only [a7] at hd;split at hd
  ·rename_i e' he;injection hd with hd
   subst hd;obtain ⟨d0,e0,k1,k2,k3,k4⟩:=(glh he).2.1 b hb;exact ⟨d0,e0,k1,k2,k3,k4.imp (fun k=>⟨k.1,(hbx d k.2).1⟩) id⟩
  ·cases hbd:bw L X d
   ·rw [hbd] at hd;simp only [NK,NB] at hd;obtain ⟨e0,h1,rfl⟩:=hd;rw [LE.scrub_live] at hl;rw [hβ d hbd] at hb;exact ⟨d,e0,h1,hl,hb,.inl ⟨rfl,rfl⟩⟩
   ·rw [hbd] at hd; cases hd
 refine ⟨hS.keep,hS.agr,hS.old,hS.size,fun d e hd=>?_,fun d e b hd hl hb=>?_,fun d d' e e' b hd hl hd' hl' hb hb'=>?_,fun s=>?_⟩
 ·simp only [a7] at hd;split at hd
  ·rename_i e' he;injection hd with hd
   subst hd;exact (glh he).1
  ·cases hbd:bw L X d
   ·rw [hbd] at hd;simp only [NK,NB] at hd;obtain ⟨e0,h1,rfl⟩:=hd;exact LE.sat_scrub hβ d hbd e0 (hS.lhs d e0 h1)
   ·rw [hbd] at hd; cases hd
 ·obtain ⟨d0,e0,k1,k2,k3,_⟩:=owner d e b hd hl hb;exact hS.owns d0 e0 b k1 k2 k3
 ·obtain ⟨d0,e0,k1,k2,k3,k4⟩:=owner d e b hd hl hb;obtain ⟨d1,e1,q1,q2,q3,q4⟩:=owner d' e' b hd' hl' hb';have h01:=hS.inj d0 d1 e0 e1 b k1 k2 q1 q2 k3 q3;subst h01;rcases k4 with ⟨rfl,h1⟩ | h1 <;> rcases q4 with ⟨h3,h2⟩ | h2
  ·exact h3
  ·have:=hbad _ ((fI h2).2 _ rfl); rw [h1] at this; cases this
  ·subst h3;have:=hbad _ ((fI h1).2 _ rfl); rw [h2] at this; cases this
  ·exact qU ren hsrc h1 h2
 ·simp only [a7];split
  ·rename_i a ha;exact genv ha
  ·cases hL:L.contains s
   ·simp only [NK];exact cQ (aI _) _ _ (AV.val_scrub hβ _ _ (hS.env s))
   ·trivial
theorem tj (bad:Nat->Bool):∀ (x:AV),(x.scrub bad).scrub bad=x.scrub bad:=by
 intro x
 induction x with
 | own d=>simp only [AV.scrub]; cases h:bad d <;> simp [AV.scrub,h]
 | loc d off=>simp only [AV.scrub]; cases h:bad d <;> simp [AV.scrub,h]
 | el d T i off=>simp only [AV.scrub]; cases h:bad d <;> simp [AV.scrub,h]
 | mp d=>simp only [AV.scrub]; cases h:bad d <;> simp [AV.scrub,h]
 | osl d T i n=>simp only [AV.scrub]; cases h:bad d <;> simp [AV.scrub,h]
 | psl d i n=>simp only [AV.scrub]; cases h:bad d <;> simp [AV.scrub,h]
 | fn f c1 c2 =>
  simp only [AV.scrub];cases h:(c1.any fun x=>bad x.1)||(c2.any fun x=>bad x.1)
  ·simp only [NK,AV.scrub,h]
  ·rfl
 | pair a b iha ihb=>simp only [AV.scrub,iha,ihb]
 | tup a b iha ihb=>simp only [AV.scrub,iha,ihb]
 | gd g w a iha=>simp only [AV.scrub,iha]
 | _=>rfl
theorem fY (bad:Nat->Bool) (e:LE):(e.scrub bad).scrub bad=e.scrub bad:=by
 cases e <;> simp [LE.scrub,tj]
theorem mP (bad:Nat->Bool) (x:AV):zY bad ((x.scrub bad).opn []):=by
 refine ⟨?_,cd _ _⟩
 cases h:x.scrub bad <;> first
  | rfl
  | (rw [<- h]; have:(x.scrub bad).opn []=x.scrub bad:=by (rw [h]; rfl)
     rw [this]; exact tj bad x)
theorem y6 {L X:List Nat} {cs:List Cr} {x x':da cs} {S':St} (hF:Fr L (bw L X) (a7 S L X cs x) S') (henv:∀ (y:da cs) s,(envOf cs y s).isSome=(envOf cs x s).isSome)
  (hlh:∀ (y:da cs) d,(lhOf cs y d).isSome=(lhOf cs x d).isSome) (hbox:∀ d,(cs.flatMap Cr.boxName).contains d=true->(lhOf cs x d).isSome=true) :
  (a7 S' L X cs x').env=(a7 S L X cs x').env/\(a7 S' L X cs x').lh=(a7 S L X cs x').lh/\(a7 S' L X cs x').n=S.n:=by
 refine ⟨?_,?_,hF.n⟩
 ·funext s;simp only [a7];cases he:envOf cs x' s with
  | some a=>rfl
  | none =>
   cases hL:L.contains s
   ·simp only [NK]
    have hnone:envOf cs x s=none:=by
     have:=henv x' s;rw [he] at this;cases hx:envOf cs x s with
     | none=>rfl
     | some a=>rw [hx] at this; cases this
    have e1:(a7 S L X cs x).env s=((S.env s).scrub (bw L X)).opn []:=by
     simp only [a7,hnone,hL,NK]
    have hst:zY (bw L X) ((a7 S L X cs x).env s):=by rw [e1]; exact mP _ _
    have h2:=hF.env s hL hst;rw [h2,e1,(mP (bw L X) (S.env s)).1,gA (cd _ _)]
   ·rfl
 ·funext d;simp only [a7];cases he:lhOf cs x' d with
  | some a=>rfl
  | none =>
   cases hb:bw L X d
   ·simp only [NK]
    have hnone:lhOf cs x d=none:=by
     have:=hlh x' d;rw [he] at this;cases hx:lhOf cs x d with
     | none=>rfl
     | some a=>rw [hx] at this; cases this
    have hnb:(cs.flatMap Cr.boxName).contains d=false:=by
     cases hbx:(cs.flatMap Cr.boxName).contains d
     ·rfl
     ·have:=hbox d hbx; rw [hnone] at this; cases this
    have e1:(a7 S L X cs x).lh d=(S.lh d).map (LE.scrub (bw L X)):=by
     simp only [a7,hnone,hb,NK]
    have hlock:(a7 S L X cs x).lock d=true:=by simp only [a7,hb,hnb]; rfl
    have h2:=hF.lh d hlock (fun e he=>by
     rw [e1] at he;simp only [NB] at he;obtain ⟨e0,_,rfl⟩:=he;exact fY _ e0)
    rw [h2,e1];cases S.lh d with
    | none=>rfl
    | some e0=>simp only [Od,fY]
   ·rfl
end
section
variable {L:List Nat} {bad:Nat->Bool} {S:St} {P:Program} {ss:Specs} {ops:Array Oper}
theorem Lp (hN:Named L bad) (h:Tidy bad S) (hd:∀ o∈ops.toList,∀ d,o.dst=some d->L.contains d=true) {ps:List Prop} {S':St} (hr:oG P ss ops S.clean=some (ps,S')) :
  Fr L bad S S'/\Tidy bad S':=by
 have hc:=fy (L:=L) h;unfold oG tl at hr;have hf:=c7 (L:=L) (bad:=bad) (ef ss ops S.clean) S.clean hc.2;have hc:=And.intro (hc.1.trans hf.1) hf.2;clear hf h;generalize S.clean.freeze (ef ss ops S.clean)=S1 at *;split at hr;rename_i ps1 rs hm;split at hr <;> try cases hr
 split at hr <;> simp only [Jg,Ny,reduceCtorEq] at hr;obtain ⟨rfl,rfl⟩:=hr;rename_i qs S' hrun;obtain ⟨n,h1,h2,h3⟩:=nD (P:=P) (ss:=ss) (ops:=ops) (S:=S1) ops.toList [];rw [hm] at h1 h3;obtain ⟨rs1,e1,hl,hat⟩:=qe _ _ _ _ h3;simp only [Oa] at e1 hat;subst e1
 have k1:Fr L bad S1 (gu S1 rs):=by
  refine ⟨rfl,rfl,fun s hs _=>?_,fun _ _ _=>rfl,fun _ _ env h=>⟨env,h,fun _ _=>rfl⟩⟩
  have:lk rs s=none:=ph rs s (fun i a hi=>by
   have hlt:i<rs.length:=by
    rcases NW i rs.length with h | h
    ·exact h
    ·rw [List.getElem?_eq_none h] at hi; cases hi
   have ho:(ops.toList.take n)[i]?=some ((ops.toList.take n)[i]'(by omega)):=List.getElem?_eq_getElem (by omega);obtain ⟨qs',d,r,g1,g2,_⟩:=hat i _ ho;rw [hi] at g1;injection g1 with g1
   injection g1 with g1 _
   subst g1;have:=hd _ (OZ (List.getElem_mem (by omega))) s (sG g2);rw [hs] at this;cases this)
  simp only [gu,this]
 have k2:Tidy bad (gu S1 rs):=⟨hc.2.lock,hc.2.row,hc.2.frame⟩;have k3:=uu hN _ _ _ _ k2 (fun o ho d hdst=>hd o (O0 ho) d hdst) hrun;exact ⟨(hc.1.trans k1).trans k3.1,k3.2⟩
theorem EF (l:List (Nat×AV)) (hl:∀ x∈l,L.contains x.1=true) (h:Tidy bad S):Fr L bad S (gu S l)/\Tidy bad (gu S l):=by
 refine ⟨⟨rfl,rfl,fun s hs _=>?_,fun _ _ _=>rfl,fun _ _ env h=>⟨env,h,fun _ _=>rfl⟩⟩,⟨h.lock,h.row,h.frame⟩⟩
 have:lk l s=none:=ph l s (fun i a hi=>by
  have:=hl _ (Oy hi);rw [hs] at this;cases this)
 simp only [gu,this]
theorem mT (f:Nat->Bool):∀ (ent:List (Option (Nat×AV))) (n:Nat) (x:Nat×AV),x∈dg f n ent->∃ a,some (x.1,a)∈ent
 | [],_,x,h=>by cases h
 | none::es,n,x,h=>by
  obtain ⟨a,h⟩:=mT f es (n+1) x h;exact ⟨a,NT _ h⟩
 | some (d,b)::es,n,x,h=>by
  simp only [dg] at h;rcases NG.1 h with rfl | h
  ·exact ⟨b,NS⟩
  ·obtain ⟨a,h⟩:=mT f es (n+1) x h;exact ⟨a,NT _ h⟩
theorem JU (h:Tidy bad S) (hd:∀ o∈ops.toList,∀ d,o.dst=some d->L.contains d=true):Fr L bad S (Dy ss ops S)/\Tidy bad (Dy ss ops S):=by
 have hc:=fy (L:=L) h
 have hs:=EF (L:=L) ((sM ss ops).map fun d=>(d,AV.any)) (fun x hx=>by
  obtain ⟨d,ig,rfl⟩:=NZ.1 hx;obtain ⟨o,ho,he⟩:=OX.1 ig;split at he
  ·cases he
  ·exact hd o ho d he) hc.2
 exact ⟨hc.1.trans hs.1,hs.2⟩
theorem Bm:∀ (os:List Oper) (i:Nat) (S:St) (ent:List (Option (Nat×AV))) (ps:List Prop) (Ss:List St) (ent':List (Option (Nat×AV))),iA P ss ops os i S ent=some (ps,Ss,ent')->Ss≠[]
 | [],i,S,ent,ps,Ss,ent',h=>by
  simp only [iA,Jg,Ny] at h;obtain ⟨_,rfl,_⟩:=h;simp
 | o::os,i,S,ent,ps,Ss,ent',h=>by
  unfold iA at h;split at h
  ·split at h <;> try cases h
   split at h <;> simp only [Jg,Ny,reduceCtorEq] at h;obtain ⟨_,rfl,_⟩:=h;simp
  ·split at h <;> try cases h
   split at h <;> simp only [Jg,Ny,reduceCtorEq] at h;rename_i qs Ss1 ent1 hr;obtain ⟨_,rfl,_⟩:=h;exact Bm os _ _ _ _ _ _ hr
theorem ut (hN:Named L bad) (hd:∀ o∈ops.toList,∀ d,o.dst=some d->L.contains d=true):∀ (os:List Oper) (i:Nat) (S:St) (ent:List (Option (Nat×AV))) (ps:List Prop) (Ss:List St) (ent':List (Option (Nat×AV))),iA P ss ops os i S ent=some (ps,Ss,ent')->Tidy bad S->(∀ o∈os,o∈ops.toList)->(∀ d a,some (d,a)∈ent->L.contains d=true) ->
  (∀ d a,some (d,a)∈ent'->L.contains d=true)/\∀ Sr,Ss.getLast?=some Sr->Fr L bad S Sr/\Tidy bad Sr
 | [],i,S,ent,ps,Ss,ent',h,hT,_,he=>by
  simp only [iA,Jg,Ny] at h;obtain ⟨_,rfl,rfl⟩:=h;refine ⟨he,fun Sr hSr=>?_⟩;simp only [List.getLast?_singleton,Jg] at hSr;subst hSr;exact ⟨Fr.refl _ _ _,hT⟩
 | o::os,i,S,ent,ps,Ss,ent',h,hT,hm,he=>by
  have hom:=hm o NS;have hm':∀ o∈os,o∈ops.toList:=fun o ho=>hm o (NT _ ho)
  unfold iA at h;split at h
  ·split at h <;> try cases h
   rename_i ps1 T hev;split at h <;> simp only [Jg,Ny,reduceCtorEq] at h;rename_i qs Ss1 ent1 hr;obtain ⟨rfl,rfl,rfl⟩:=h
   have k1:=EF (L:=L) (dg (dD ops i) 0 ent) (fun x hx=>by
    obtain ⟨a,ha⟩:=mT _ _ _ _ hx;exact he _ _ ha) hT
   have k2:=JV hN k1.2 (hd o hom) hev;have k3:=JU (ss:=ss) k2.2 hd
   obtain ⟨k4,k5⟩:=ut hN hd os _ _ _ _ _ _ hr k3.2 hm' (fun d a h=>by
    rcases NI.1 h with h | h
    ·exact he d a h
    ·cases NL.1 h)
   refine ⟨k4,fun Sr hSr=>?_⟩;cases hS1:Ss1 with
   | nil =>
    exfalso;have:=Bm os _ _ _ _ _ _ hr;exact this hS1
   | cons S1 Ss2 =>
    rw [hS1,List.getLast?_cons_cons,<- hS1] at hSr;obtain ⟨k6,k7⟩:=k5 Sr hSr;exact ⟨((k1.1.trans k2.1).trans k3.1).trans k6,k7⟩
  ·split at h <;> try cases h
   rename_i ps1 r d hev hdst;split at h <;> simp only [Jg,Ny,reduceCtorEq] at h;rename_i qs Ss1 ent1 hr;obtain ⟨rfl,rfl,rfl⟩:=h
   exact ut hN hd os _ _ _ _ _ _ hr hT hm' (fun d' a h=>by
    rcases NI.1 h with h | h
    ·exact he d' a h
    ·have:=NL.1 h;injection this with this
     injection this with this _
     subst this;exact hd o hom _ hdst)
theorem LV (hN:Named L bad) (hT:Tidy bad S) (hd:∀ o∈ops.toList,∀ d,o.dst=some d->L.contains d=true) {ps:List Prop} {S':St} (hr:wE P ss ops S=some (ps,S')) :
  Fr L bad S S'/\Tidy bad S':=by
 unfold wE at hr;generalize Ch ops ops.size=k at *;have hdh:∀ o∈(ops.toList.take k).toArray.toList,∀ d,o.dst=some d->L.contains d=true:=fun o ho d hdst=>hd o (OZ (by simpa using ho)) d hdst
 generalize (ops.toList.take k).toArray=he at *;unfold I5 at hr;split at hr <;> try cases hr
 rename_i ps1 Ss ent hgo;split at hr <;> try cases hr
 rename_i qs Sr hchk hlast;split at hr <;> try cases hr
 split at hr <;> simp only [Jg,Ny,reduceCtorEq] at hr;rename_i qs2 S2 hrun;obtain ⟨rfl,rfl⟩:=hr;have k1:=JU (ss:=ss) hT hdh;obtain ⟨k2,k3⟩:=ut hN hdh _ _ _ _ _ _ _ hgo k1.2 (fun o ho=>ho) (fun d a h=>by cases h);obtain ⟨k4,k5⟩:=k3 Sr hlast
 have k6:=EF (L:=L) (dg (fun _=>true) 0 ent) (fun x hx=>by
  obtain ⟨a,ha⟩:=mT _ _ _ _ hx;exact k2 _ _ ha) k5
 have k7:=uu hN _ _ _ _ k6.2 (fun o ho d hdst=>hd o (O0 ho) d hdst) hrun;exact ⟨((k1.1.trans k4).trans k6.1).trans k7.1,k7.2⟩
theorem LW (_:Named L bad) (_:Tidy bad S) (_:∀ o∈ops.toList,∀ d,o.dst=some d->L.contains d=true) {ps:List Prop} {S':St} (hr:Fm P ss ops S=some (ps,S')) :
  Fr L bad S S'/\Tidy bad S':=by cases hr
theorem M0 (hN:Named L bad) (hT:Tidy bad S) (hd:∀ o∈ops.toList,∀ d,o.dst=some d->L.contains d=true) {ps:List Prop} {S':St} (hr:G8 P ss ops S=some (ps,S')) :
  Fr L bad S S'/\Tidy bad S':=by
 unfold G8 at hr;split at hr
 ·rename_i r h1;injection hr with hr
  subst hr;exact LV hN hT hd h1
 ·have hf:=c7 (L:=L) (bad:=bad) (ef ss ops S) S hT;have k:=LV hN hf.2 hd hr;exact ⟨hf.1.trans k.1,k.2⟩
theorem M1 (hN:Named L bad) (hT:Tidy bad S) (hd:∀ o∈ops.toList,∀ d,o.dst=some d->L.contains d=true) {ps:List Prop} {S':St} (hr:G9 P ss ops S=some (ps,S')) :
  Fr L bad S S'/\Tidy bad S':=by
 unfold G9 at hr;split at hr
 ·rename_i r h1;injection hr with hr
  subst hr;exact LW hN hT hd h1
 ·have hf:=c7 (L:=L) (bad:=bad) (ef ss ops S) S hT;have k:=LW hN hf.2 hd hr;exact ⟨hf.1.trans k.1,k.2⟩
theorem JW (hN:Named L bad) (h:Tidy bad S) (hd:∀ o∈ops.toList,∀ d,o.dst=some d->L.contains d=true) {ps:List Prop} {S':St} (hr:ma P ss ops S.clean=some (ps,S')) :
  Fr L bad S S'/\Tidy bad S':=by
 unfold ma at hr;split at hr
 ·rename_i r h1;injection hr with hr
  subst hr;exact Lp hN h hd h1
 ·have hc:=fy (L:=L) h;split at hr
  ·rename_i r h1;injection hr with hr
   subst hr;have k:=M0 hN hc.2 hd h1;exact ⟨hc.1.trans k.1,k.2⟩
  ·have k:=M1 hN hc.2 hd hr;exact ⟨hc.1.trans k.1,k.2⟩
theorem JX {b:Bool} (hN:Named L bad) (h:Tidy bad S) (hd:∀ o∈ops.toList,∀ d,o.dst=some d->L.contains d=true) {ps:List Prop} {S':St} (hr:mb b P ss ops S.clean=some (ps,S')) :
  Fr L bad S S'/\Tidy bad S':=by
 unfold mb at hr;cases b
 ·exact JW hN h hd hr
 ·simp only [N2] at hr;have hc:=fy (L:=L) h;split at hr
  ·rename_i r h1;injection hr with hr
   subst hr;have k:=M0 hN hc.2 hd h1;exact ⟨hc.1.trans k.1,k.2⟩
  ·have k:=M1 hN hc.2 hd hr;exact ⟨hc.1.trans k.1,k.2⟩
end
def pS (φ ψ:Nat->Nat) (d:Nat):Bool:=Nat.beq (ψ (φ d)) d
def AV.ren (φ ψ:Nat->Nat):AV->AV
 | .own d=>bif pS φ ψ d then .own (φ d) else .any
 | .loc d off=>bif pS φ ψ d then .loc (φ d) off else .any
 | .el d T i off=>bif pS φ ψ d then .el (φ d) T i off else .any
 | .mp d=>bif pS φ ψ d then .mp (φ d) else .any
 | .fn f c1 c2=>bif (c1.all fun x=>pS φ ψ x.1)&&(c2.all fun x=>pS φ ψ x.1) then .fn f (c1.map fun x=>(φ x.1,x.2)) (c2.map fun x=>(φ x.1,x.2)) else .any
 | .pair a b=>.pair (a.ren φ ψ) (b.ren φ ψ)
 | .tup a b=>.tup (a.ren φ ψ) (b.ren φ ψ)
 | .gd g w a=>.gd g w (a.ren φ ψ)
 | .osl d T i n=>bif pS φ ψ d then .osl (φ d) T i n else .any
 | .psl d i n=>bif pS φ ψ d then .psl (φ d) i n else .any
 | .any=>.any
 | .int k n=>.int k n
 | .bool b=>.bool b
 | .str s=>.str s
 | .nils=>.nils
 | .sl T xs=>.sl T xs
 | .tnil=>.tnil
 | .pt T x off=>.pt T x off
 | .bl t f=>.bl t f
 | .fd A B g=>.fd A B g
 | .md k V m=>.md k V m
 | .nilm=>.nilm
 | .nilf=>.nilf
def LE.ren (φ ψ:Nat->Nat):LE->LE
 | .cells c=>.cells (c.ren φ ψ)
 | .row e T xs=>.row e T xs
 | .froz T xs=>.froz T xs
 | .mapp k V m=>.mapp k V m
 | .frozm k V m=>.frozm k V m
 | .iter k V l c=>.iter k V l c
 | .mapo k V m x c=>.mapo k V m x (c.ren φ ψ)
 | .dead=>.dead
 | .frame tm env=>.frame tm (fun s=>(env s).ren φ ψ)
theorem LE.ren_live (φ ψ:Nat->Nat) (e:LE):(e.ren φ ψ).live=e.live:=by cases e <;> rfl
def mc (φ ψ:Nat->Nat) (lh:Nat->Option LE):Nat->Option LE:=fun n=>bif Nat.beq (φ (ψ n)) n then (lh (ψ n)).map (LE.ren φ ψ) else none
section
variable {φ ψ:Nat->Nat} {p:PH} {β:Nat->Value} {tm:Array Value} {w:World}
theorem nI {d:Nat} (h:pS φ ψ d=true):ψ (φ d)=d:=Nz h
theorem ll:∀ (c:List (Nat×Nat)) (vs:List Value),(c.all fun x=>pS φ ψ x.1)=true->gX β c vs->gX (fun n=>β (ψ n)) (c.map fun x=>(φ x.1,x.2)) vs
 | [],_,_,h=>h
 | (d,off)::c,_,hb,⟨b,rest,e,hd,hr⟩=>by
  simp only [OB,NA] at hb;exact ⟨b,rest,e,by simp only [nI hb.1]; exact hd,ll c rest hb.2 hr⟩
theorem AV.one_ren (a:AV) (v:Value) (ha:a.one p β v):(a.ren φ ψ).one p (fun n=>β (ψ n)) v:=by
 cases a <;> simp only [AV.ren] <;> try (simp only [AV.one] at ha |- <;> exact ha)
 case own d=>cases hb:pS φ ψ d <;> simp only [N2,NK,AV.one] at ha |-; rw [nI hb]; exact ha
 case loc d off=>cases hb:pS φ ψ d <;> simp only [N2,NK,AV.one] at ha |-; rw [nI hb]; exact ha
 case el d T i off=>cases hb:pS φ ψ d <;> simp only [N2,NK,AV.one] at ha |-; rw [nI hb]; exact ha
 case osl d T i n=>cases hb:pS φ ψ d <;> simp only [N2,NK,AV.one] at ha |-; rw [nI hb]; exact ha
 case psl d i n=>cases hb:pS φ ψ d <;> simp only [N2,NK,AV.one] at ha |-; rw [nI hb]; exact ha
 case mp d=>cases hb:pS φ ψ d <;> simp only [N2,NK,AV.one] at ha |-; rw [nI hb]; exact ha
 case fn f c1 c2 =>
  cases hb:(c1.all fun x=>pS φ ψ x.1)&&(c2.all fun x=>pS φ ψ x.1) <;> simp only [N2,NK,AV.one] at ha |-;simp only [NA] at hb;obtain ⟨v1,v2,e,h1,h2⟩:=ha;exact ⟨v1,v2,e,ll _ _ hb.1 h1,ll _ _ hb.2 h2⟩
theorem AV.ren_pair (a:AV) (hp:∀ x y,a≠.pair x y):∀ x y,a.ren φ ψ≠.pair x y:=by
 intro x y e;cases a <;> simp only [AV.ren] at e <;> first | (exact absurd rfl (hp _ _)) | cases e | (revert e; cases pS _ _ _ <;> intro e <;> cases e) | (revert e; cases (_&&_) <;> intro e <;> cases e)
theorem AV.cells_ren:∀ (a:AV) (cs:List Value),a.cells p β cs->(a.ren φ ψ).cells p (fun n=>β (ψ n)) cs:=by
 intro a
 induction a with
 | pair a b _ ih2 =>
  intro cs hc
  match cs,hc with
  | v::cs,hc=>exact ⟨AV.one_ren a v hc.1,ih2 cs hc.2⟩
 | _ =>
  intro cs hc;obtain ⟨v,e,hv⟩:=(AV.cells_leaf _ (by intro x y e; cases e) cs).1 hc;exact (AV.cells_leaf _ (AV.ren_pair _ (by intro x y e; cases e)) cs).2 ⟨v,e,AV.one_ren _ v hv⟩
theorem AV.val1_ren (a:AV) (v:Value) (ha:a.val1 p β v):(a.ren φ ψ).val1 p (fun n=>β (ψ n)) v:=by
 by_cases hp:∀ x y,a≠.pair x y
 ·exact (AV.val1_leaf _ (AV.ren_pair a hp) v).2 (AV.one_ren a v ((AV.val1_leaf a hp v).1 ha))
 ·cases a <;> (first | (exfalso; apply hp; intro x y e; cases e; done) | skip);obtain ⟨cs,e,hc⟩:=ha;exact ⟨cs,e,AV.cells_ren _ _ hc⟩
theorem AV.vals_ren:∀ (a:AV) (vs:List Value),a.vals p β vs->(a.ren φ ψ).vals p (fun n=>β (ψ n)) vs:=by
 intro a
 induction a with
 | tup a b _ ih2 =>
  intro vs hv
  match vs,hv with
  | v::vs,hv=>exact ⟨AV.val1_ren a v hv.1,ih2 vs hv.2⟩
 | tnil=>intro vs hv; cases vs <;> exact hv
 | _=>intro vs hv; simp [AV.vals] at hv
theorem AV.val_ren:∀ (a:AV) (v:Value),a.val p β tm v->(a.ren φ ψ).val p (fun n=>β (ψ n)) tm v:=by
 intro a
 induction a with
 | gd g w a ih =>
  intro v ha;rcases ha with ⟨e,ha⟩ | ha
  ·exact .inl ⟨e,ih v ha⟩
  ·exact .inr ha
 | tup a b =>
  intro v ha;obtain ⟨vs,e,hv⟩:=ha;exact ⟨vs,e,AV.vals_ren _ _ hv⟩
 | tnil=>intro v ha; exact ha
 | pair a b=>intro v ha; exact AV.val1_ren _ v ha
 | _ =>
  intro v ha;have hs:=AV.val1_ren (φ:=φ) (ψ:=ψ) _ v ha;simp only [AV.ren] at hs |-
  first
   | exact hs
   | (revert hs; cases pS _ _ _ <;> exact fun hs=>hs)
   | (revert hs; cases (_&&_) <;> exact fun hs=>hs)
theorem LE.sat_ren {d:Nat} (e:LE) (he:e.sat p β w (ψ d)):(e.ren φ ψ).sat p (fun n=>β (ψ n)) w d:=by
 cases e with
 | cells c=>obtain ⟨b,cs,t,e1,e2,e3⟩:=he; exact ⟨b,cs,t,e1,e2,AV.cells_ren _ _ e3⟩
 | frame tm env=>exact fun s=>AV.val_ren _ _ (he s)
 | mapo k V m x c =>
  obtain ⟨r,es,clock,e1,e2,e3,e4,e5⟩:=he;refine ⟨r,es,clock,e1,e2,e3,e4,b6 (fun o v hv=>?_) _ _ e5⟩;cases o with
  | some y=>exact hv
  | none=>exact AV.one_ren c v hv
 | dead=>trivial
 | _=>exact he
theorem AV.ren_noGd {x:AV} (h:x.noGd=true):(x.ren φ ψ).noGd=true:=by
 cases x <;> simp only [AV.ren] <;> first | rfl | (cases h; done) | (cases pS _ _ _ <;> rfl) | (cases (_&&_) <;> rfl)
end
theorem SatB.renamed {M:Nat->Prop} {p0:PH} {w0:World} {S:St} {tm tm':Array Value} {w:World} {p:PH} {β:Nat->Value} (h:SatB M p0 w0 S tm w p β) {φ ψ:Nat->Nat} {T:St}
  (hlh:∀ n e,T.lh n=some e->e.live=false/\e.sat p (fun n=>β (ψ n)) w n\/mc φ ψ S.lh n=some e) (hsz:tm'.size=T.n) (henv:∀ s,(T.env s).val p (fun n=>β (ψ n)) tm' (tm'.getD s undef)):SatB M p0 w0 T tm' w p (fun n=>β (ψ n)):=by
 have key:∀ n e,mc φ ψ S.lh n=some e->φ (ψ n)=n/\∃ e0,S.lh (ψ n)=some e0/\e=e0.ren φ ψ:=by
  intro n e he;unfold mc at he;cases hb:Nat.beq (φ (ψ n)) n
  ·rw [hb] at he; cases he
  ·rw [hb] at he;simp only [N2,NB] at he;obtain ⟨e0,h1,h2⟩:=he;exact ⟨Nz hb,e0,h1,h2.symm⟩
 refine ⟨h.keep,h.agr,h.old,hsz,fun n e he=>?_,fun n e b he hl hb=>?_,fun n n' e e' b he hl he' hl' hb hb'=>?_,henv⟩
 ·rcases hlh n e he with ⟨_,h1⟩ | h1
  ·exact h1
  ·obtain ⟨_,e0,h2,rfl⟩:=key n e h1;exact LE.sat_ren e0 (h.lhs _ _ h2)
 ·rcases hlh n e he with ⟨h1,_⟩ | h1
  ·rw [h1] at hl; cases hl
  ·obtain ⟨_,e0,h2,rfl⟩:=key n e h1;exact h.owns _ e0 b h2 (by rw [LE.ren_live] at hl; exact hl) hb
 ·rcases hlh n e he with ⟨h1,_⟩ | h1
  ·rw [h1] at hl; cases hl
  ·rcases hlh n' e' he' with ⟨k1,_⟩ | k1
   ·rw [k1] at hl'; cases hl'
   ·obtain ⟨g1,e0,h2,rfl⟩:=key n e h1;obtain ⟨g2,e1,k2,rfl⟩:=key n' e' k1;rw [LE.ren_live] at hl hl';have:=h.inj _ _ e0 e1 b h2 hl k2 hl' hb hb';rw [<- g1,<- g2,this]
def iu (d:Nat):Nat:=1000000 * d+900000
def vf (n:Nat):Nat:=bif Nat.beq (n % 1000000) 900000 then n / 1000000 else n
def jI (d m:Nat):Nat:=bif Nat.beq (m % 1000000) 900000 then m / 1000000 else d+1000000 * (100+m)
def sg (d n:Nat):Nat:=bif Nat.beq (n % 1000000) d&&Nat.ble 100 (n / 1000000) then n / 1000000 - 100 else 1000000 * n+900000
def cU:Nat:=900002
def Ca:List AV->Nat->AV
 | [],_=>.any
 | a::_,0=>a
 | _::xs,n+1=>Ca xs n
def dB (tm:Array Value) (S:St) (n:Nat) (avs:List AV):St where
 env:=fun s=>(Ca avs s).ren iu vf
 lh:=fun d=>bif Nat.beq d cU then some (.frame tm (fun s=>(S.env s).ren iu vf)) else mc iu vf S.lh d
 n:=n
 lock:=fun d=>bif Nat.beq d cU then true else bif Nat.beq (d % 1000000) 900000 then S.lock (d / 1000000) else false
def AV.plain:AV->AV
 | .gd ..=>.any
 | .tup ..=>.any
 | .tnil=>.any
 | a=>a
def IE:List AV->AV
 | []=>.tnil
 | a::xs=>.tup a.plain (IE xs)
def I7:List AV->AV
 | [a]=>a.plain
 | xs=>IE xs
def rF (S S':St) (env':Nat->AV) (d:Nat) (avs:List AV):St :=
 St.set { env:=fun s=>(env' s).ren (jI d) (sg d)
          lh:=fun n=>bif Nat.beq (sg d n) cU then none else mc (jI d) (sg d) S'.lh n
          n:=S.n,lock:=S.lock } d ((I7 avs).ren (jI d) (sg d))
def mH (bad:Nat->Bool) (n:Nat):Bool:=bif Nat.beq (n % 1000000) 900000 then bad (n / 1000000) else !Nat.beq n cU
section
variable {M:Nat->Prop} {p0:PH} {w0:World} {S S':St} {tm tm':Array Value} {w w':World} {p:PH} {β:Nat->Value} {L L':List Nat} {bad:Nat->Bool}
theorem xl:∀ (avs:List AV) (s:Nat),Ca avs s=match avs[s]? with | some a=>a | none=>.any
 | [],s=>by simp [Ca]
 | a::xs,0=>rfl
 | a::xs,s+1=>by simp only [Ca,List.getElem?_cons_succ]; exact xl xs s
theorem H2 (h:SatB M p0 w0 S tm w p β) {avs:List AV} {vs:List Value} (hl:vs.length=avs.length) (hv:∀ (i:Nat) a v,avs[i]?=some a->vs[i]?=some v->a.val p β tm v/\a.noGd=true) {n:Nat} (hn:avs.length<=n) :
  SatB M p0 w0 (dB tm S n avs) (vs.toArray++Array.replicate (n - vs.toArray.size) undef) w p (fun n=>β (vf n)):=by
 refine h.renamed (φ:=iu) (fun d e he=>?_) (by simp [dB,hl]; omega) (fun s=>?_)
 ·simp only [dB] at he;cases hb:Nat.beq d cU
  ·rw [hb] at he; exact .inr he
  ·rw [hb] at he;simp only [N2,Jg] at he;subst he;exact .inl ⟨rfl,fun s=>AV.val_ren _ _ (h.env s)⟩
 ·simp only [dB,xl];cases ha:avs[s]? with
  | none=>trivial
  | some a =>
   have hs:s<avs.length:=(List.getElem?_eq_some_iff.1 ha).1;have hv1:vs[s]?=some (vs[s]'(by omega)):=List.getElem?_eq_getElem (by omega)
   have e:(vs.toArray++Array.replicate (n - vs.toArray.size) undef).getD s undef=vs[s]'(by omega):=by
    simp only [Array.getD_eq_getD_getElem?,Array.getElem?_append,ON,List.getElem?_toArray];rw [if_pos (by omega),hv1];rfl
   rw [e];obtain ⟨k1,k2⟩:=hv s a _ ha hv1;exact eP (AV.ren_noGd k2) (AV.val_ren _ _ k1)
theorem tV {a:AV} {v:Value} (h:a.val p β tm v):a.plain.val1 p β v:=by
 cases a <;> first | trivial | exact h
theorem sY:∀ (avs:List AV) (vs:List Value),vs.length=avs.length->(∀ (i:Nat) a v,avs[i]?=some a->vs[i]?=some v->a.val p β tm v)->(IE avs).vals p β vs
 | [],[],_,_=>trivial
 | [],_::_,h,_=>by cases h
 | _::_,[],h,_=>by cases h
 | a::xs,v::vs,hl,h=>⟨tV (h 0 a v rfl rfl),sY xs vs (by simpa using hl) (fun i a v ha hv=>h (i+1) a v (by simpa using ha) (by simpa using hv))⟩
theorem Ec (a:AV):a.plain.noGd=true:=by cases a <;> rfl
theorem D7 (avs:List AV):(I7 avs).noGd=true:=by
 match avs with
 | []=>rfl
 | [a]=>exact Ec a
 | _::_::_=>rfl
theorem Hb {avs:List AV} {vs:List Value} (hl:vs.length=avs.length) (h:∀ (i:Nat) a v,avs[i]?=some a->vs[i]?=some v->a.val p β tm v):(I7 avs).val p β tm (ck vs):=by
 match avs,vs,hl,h with
 | [],[],_,_=>rfl
 | [a],[v],_,h=>exact AV.val_of_val1 (tV (h 0 a v rfl rfl))
 | a::b::xs,u::v::vs,hl,h=>exact ⟨u::v::vs,rfl,sY (a::b::xs) (u::v::vs) hl h⟩
theorem K8 (h:SatB M p0 w0 S' tm' w p β) {env':Nat->AV} (hf:S'.lh cU=some (.frame tm env')) (hsz:tm.size=S.n) {d:Nat} (hd:d<S.n) {avs:List AV} {vs:List Value} (hl:vs.length=avs.length)
  (hv:∀ (i:Nat) a v,avs[i]?=some a->vs[i]?=some v->a.val p β tm' v):Sat M p0 w0 (rF S S' env' d avs) (tm.setIfInBounds d (ck vs)) w:=by
 refine ⟨p,fun n=>β (sg d n),SatB.set ?_ hd (AV.val_ren _ _ (eP (D7 _) (Hb hl hv)))⟩;refine h.renamed (φ:=jI d) (fun n e he=>?_) hsz (fun s=>AV.val_ren _ _ (h.lhs _ _ hf s));simp only at he;cases hb:Nat.beq (sg d n) cU
 ·rw [hb] at he; exact .inr he
 ·rw [hb] at he; cases he
theorem J1 (h:∀ n,zr n=true->bad n=true):∀ n,zr n=true->mH bad n=true:=by
 intro n hn;unfold mH;unfold zr at hn;rw [HX] at hn;cases hb:Nat.beq (n % 1000000) 900000
 ·rw [hb] at hn;simp only [NK] at hn |-;have:=NO hn;have hne:n≠cU:=by unfold cU; unfold Lq at this; omega
  rw [b7 hne]; rfl
 ·rw [hb] at hn;simp only [N2] at hn |-;exact h _ (xD 8 _ hn)
theorem Ex (h:L'.all (Nat.blt · 900000)=true):Named L' (mH bad):=by
 intro d hd k
 have h1:d<900000:=by
  have:=NH.1 h d (N1.1 hd);simpa using this
 have h2:br d k % 1000000=d:=by unfold br; omega
 have h3:br d k≠cU:=by unfold cU br; omega
 unfold mH;rw [h2,b7 (by omega),b7 h3];rfl
theorem LY (d:Nat):vf (iu d)=d:=by
 unfold vf iu;have e1:(1000000 * d+900000) % 1000000=900000:=by omega
 have e2:(1000000 * d+900000) / 1000000=d:=by omega
 rw [e1,e2];rfl
theorem yh (d:Nat):iu d % 1000000=900000:=by unfold iu; omega
theorem yi (d:Nat):iu d / 1000000=d:=by unfold iu; omega
theorem sX (d:Nat):iu d≠cU:=by unfold iu cU; omega
theorem zQ (d:Nat):mH bad (iu d)=bad d:=by
 unfold mH;rw [yh,yi];rfl
theorem CH {n:Nat} {avs:List AV} (d:Nat):(dB tm S n avs).lh (iu d)=(S.lh d).map (LE.ren iu vf):=by
 simp only [dB,b7 (sX d),NK,mc,LY,d7,N2]
theorem ku {n:Nat} {avs:List AV} (d:Nat):(dB tm S n avs).lock (iu d)=S.lock d:=by
 simp only [dB,b7 (sX d),NK,yh,yi,d7,N2]
theorem Bs {n:Nat} {e:LE} (h:mc iu vf S.lh n=some e):∃ m e0,n=iu m/\S.lh m=some e0/\e=e0.ren iu vf:=by
 unfold mc at h;cases hb:Nat.beq (iu (vf n)) n
 ·rw [hb] at h; cases h
 ·rw [hb] at h;simp only [N2,NB] at h;obtain ⟨e0,h1,h2⟩:=h;exact ⟨vf n,e0,(Nz hb).symm,h1,h2.symm⟩
theorem EP (hT:Tidy bad S) {n:Nat} {avs:List AV}:Tidy (mH bad) (dB tm S n avs):=by
 refine ⟨fun d hd=>?_,fun d e T xs hd hl=>?_,fun d tm' env hd=>?_⟩
 ·simp only [dB] at hd;cases hb:Nat.beq d cU
  ·rw [hb] at hd;simp only [NK] at hd;unfold mH;cases hu:Nat.beq (d % 1000000) 900000
   ·rw [hu] at hd; cases hd
   ·rw [hu] at hd; exact hT.lock _ hd
  ·have:=Nz hb;subst this;rfl
 ·simp only [dB] at hd;cases hb:Nat.beq d cU
  ·rw [hb] at hd;obtain ⟨m,e0,rfl,h2,h3⟩:=Bs hd;rw [ku] at hl;rw [zQ];cases e0 <;> simp only [LE.ren,reduceCtorEq] at h3;exact hT.row m _ _ _ h2 hl
  ·rw [hb] at hd; cases hd
 ·simp only [dB] at hd;cases hb:Nat.beq d cU
  ·rw [hb] at hd;obtain ⟨m,e0,rfl,h2,h3⟩:=Bs hd;rw [ku];cases e0 <;> simp only [LE.ren,reduceCtorEq] at h3;exact hT.frame m _ _ h2
  ·simp only [dB,hb,N2]
theorem Mn {d n:Nat} (hN:Named L bad) (hd:L.contains d=true) (hn:bad n=false):sg d n=iu n:=by
 unfold sg;cases hb:Nat.beq (n % 1000000) d&&Nat.ble 100 (n / 1000000)
 ·rfl
 ·exfalso;simp only [NA] at hb;have h1:=Nz hb.1;have:=hN d hd (n / 1000000);have e:br d (n / 1000000)=n:=by unfold br; omega
  rw [e,hn] at this;cases this
theorem FH {d m:Nat} (h:sg d m=iu m):pS (jI d) (sg d) (iu m)=true/\jI d (iu m)=m:=by
 have e:jI d (iu m)=m:=by
  unfold jI;rw [yh,yi];rfl
 exact ⟨by unfold pS; rw [e,h]; exact d7 _,e⟩
theorem nz (m:Nat):pS iu vf m=true:=by unfold pS; rw [LY]; exact d7 _
theorem lD {d:Nat} (hback:∀ m,bad m=false->sg d m=iu m):∀ (x:AV),x.scrub bad=x->(x.ren iu vf).scrub (mH bad)=x.ren iu vf/\(x.ren iu vf).ren (jI d) (sg d)=x:=by
 have leaf:∀ m,bad m=false->mH bad (iu m)=false/\pS (jI d) (sg d) (iu m)=true/\jI d (iu m)=m:=fun m hm=>⟨by rw [zQ]; exact hm,FH (hback m hm)⟩
 intro x
 induction x with
 | own m =>
  intro h;have hm:bad m=false:=by simp only [AV.scrub] at h; cases hb:bad m; rfl; rw [hb] at h; cases h
  obtain ⟨k1,k2,k3⟩:=leaf m hm;simp only [AV.ren,nz,AV.scrub,k1,k2,k3,N2,NK,PA]
 | loc m off =>
  intro h;have hm:bad m=false:=by simp only [AV.scrub] at h; cases hb:bad m; rfl; rw [hb] at h; cases h
  obtain ⟨k1,k2,k3⟩:=leaf m hm;simp only [AV.ren,nz,AV.scrub,k1,k2,k3,N2,NK,PA]
 | el m T i off =>
  intro h;have hm:bad m=false:=by simp only [AV.scrub] at h; cases hb:bad m; rfl; rw [hb] at h; cases h
  obtain ⟨k1,k2,k3⟩:=leaf m hm;simp only [AV.ren,nz,AV.scrub,k1,k2,k3,N2,NK,PA]
 | mp m =>
  intro h;have hm:bad m=false:=by simp only [AV.scrub] at h; cases hb:bad m; rfl; rw [hb] at h; cases h
  obtain ⟨k1,k2,k3⟩:=leaf m hm;simp only [AV.ren,nz,AV.scrub,k1,k2,k3,N2,NK,PA]
 | psl m i n =>
  intro h;have hm:bad m=false:=by simp only [AV.scrub] at h; cases hb:bad m; rfl; rw [hb] at h; cases h
  obtain ⟨k1,k2,k3⟩:=leaf m hm;simp only [AV.ren,nz,AV.scrub,k1,k2,k3,N2,NK,PA]
 | osl m T i n =>
  intro h;have hm:bad m=false:=by simp only [AV.scrub] at h; cases hb:bad m; rfl; rw [hb] at h; cases h
  obtain ⟨k1,k2,k3⟩:=leaf m hm;simp only [AV.ren,nz,AV.scrub,k1,k2,k3,N2,NK,PA]
 | fn f c1 c2 =>
  intro h
  have hm:((c1.any fun x=>bad x.1)||(c2.any fun x=>bad x.1))=false:=by
   simp only [AV.scrub] at h;cases hb:(c1.any fun x=>bad x.1)||(c2.any fun x=>bad x.1)
   ·rfl
   ·rw [hb] at h; cases h
  simp only [OG] at hm;have all:∀ c:List (Nat×Nat),(c.all fun x=>pS iu vf x.1)=true:=fun c=>NH.2 (fun x _=>nz _)
  have key:∀ c:List (Nat×Nat),(c.any fun x=>bad x.1)=false->((c.map fun x=>(iu x.1,x.2)).any fun x=>mH bad x.1)=false/\((c.map fun x=>(iu x.1,x.2)).all fun x=>pS (jI d) (sg d) x.1)=true/\((c.map fun x=>(iu x.1,x.2)).map fun x=>(jI d x.1,x.2))=c:=by
   intro c
   induction c with
   | nil=>intro _; exact ⟨rfl,rfl,rfl⟩
   | cons x c ih =>
    intro hc;simp only [Pb,OG] at hc;obtain ⟨j1,j2,j3⟩:=ih hc.2;obtain ⟨k1,k2,k3⟩:=leaf _ hc.1;simp only [Oi,Pb,OB,k1,k2,k3,j1,j2,j3,Bool.or_self,Bool.and_self,PA]
  obtain ⟨a1,a2,a3⟩:=key c1 hm.1;obtain ⟨b1,b2,b3⟩:=key c2 hm.2;simp only [AV.ren,all,Bool.and_self,N2,AV.scrub,a1,b1,Bool.or_self,NK,a2,b2,a3,b3,PA]
 | pair a b iha ihb =>
  intro h;simp only [AV.scrub,AV.pair.injEq] at h;simp only [AV.ren,AV.scrub,(iha h.1).1,(ihb h.2).1,(iha h.1).2,(ihb h.2).2,PA]
 | tup a b iha ihb =>
  intro h;simp only [AV.scrub,AV.tup.injEq] at h;simp only [AV.ren,AV.scrub,(iha h.1).1,(ihb h.2).1,(iha h.1).2,(ihb h.2).2,PA]
 | gd g w a iha =>
  intro h;simp only [AV.scrub,AV.gd.injEq,Pp] at h;simp only [AV.ren,AV.scrub,(iha h).1,(iha h).2,PA]
 | _=>intro _; exact ⟨rfl,rfl⟩
theorem F6 {d:Nat} (hback:∀ m,bad m=false->sg d m=iu m) (e:LE) (h:e.scrub bad=e):(e.ren iu vf).scrub (mH bad)=e.ren iu vf/\(e.ren iu vf).ren (jI d) (sg d)=e:=by
 cases e with
 | cells c =>
  simp only [LE.scrub,LE.cells.injEq] at h;simp only [LE.ren,LE.scrub,(lD hback c h).1,(lD hback c h).2,PA]
 | mapo k V m x c =>
  simp only [LE.scrub,LE.mapo.injEq,heq_eq_eq,Pp] at h;simp only [LE.ren,LE.scrub,(lD hback c h).1,(lD hback c h).2,PA]
 | frame tm env =>
  simp only [LE.scrub,LE.frame.injEq,Pp] at h;have k:=fun s=>lD hback (env s) (congrFun h s)
  simp only [LE.ren,LE.scrub,(k _).1,(k _).2,PA]
 | _=>exact ⟨rfl,rfl⟩
theorem Mo (hT:Tidy bad S) (hN:Named L bad) {d:Nat} (hd:L.contains d=true) {S2:St} (hlu:∀ m,S2.lh (iu m)=(S.lh m).map (LE.ren iu vf)) (hlf:S2.lh cU=some (.frame tm (fun s=>(S.env s).ren iu vf)))
  (hku:∀ m,S2.lock (iu m)=S.lock m) (hko:∀ n,S2.lock n=true->n=cU\/∃ m,n=iu m) (hF:Fr L' (mH bad) S2 S') (hT':Tidy (mH bad) S') {env':Nat->AV} (hf:S'.lh cU=some (.frame tm env')) (avs:List AV) :
  Fr L bad S (rF S S' env' d avs)/\Tidy bad (rF S S' env' d avs):=by
 have hback:∀ m,bad m=false->sg d m=iu m:=fun m hm=>Mn hN hd hm
 have hlh:∀ m,bad m=false->(rF S S' env' d avs).lh m=(S'.lh (iu m)).map (LE.ren (jI d) (sg d)):=by
  intro m hm;simp only [rF,St.set,hback m hm,b7 (sX m),NK,mc,(FH (hback m hm)).2,d7,N2]
 obtain ⟨env2,k1,k2⟩:=hF.frames cU tm _ hlf;rw [hf] at k1;injection k1 with k1
 injection k1 with _ k1
 subst k1;refine ⟨⟨rfl,rfl,fun s hs hst=>?_,fun n hn hst=>?_,fun n tm1 env1 hn=>?_⟩,⟨hT.lock,fun n e T xs hn hl=>?_,fun n tm1 env1 hn=>?_⟩⟩
 ·have hne:s≠d:=by intro e; subst e; rw [hd] at hs; cases hs
  have kb:=lD hback (S.env s) hst.1;have e1:(rF S S' env' d avs).env s=((env' s).ren (jI d) (sg d)).killG d:=by simp only [rF,St.set,b7 hne,NK]
  rw [e1,k2 s ⟨kb.1,AV.ren_noGd hst.2⟩,kb.2];exact uj hst.2 d
 ·have hb:=hT.lock n hn;rw [hlh n hb]
  have e1:=hF.lh (iu n) (by rw [hku]; exact hn) (fun e he=>by
   rw [hlu] at he;simp only [NB] at he;obtain ⟨e0,g1,rfl⟩:=he;exact (F6 hback e0 (hst e0 g1)).1)
  rw [e1,hlu];cases hl:S.lh n with
  | none=>rfl
  | some e0=>simp only [Od,(F6 hback e0 (hst e0 hl)).2]
 ·have hb:=hT.lock n (hT.frame n tm1 env1 hn);have e1:=hlu n;rw [hn] at e1;simp only [Od,LE.ren] at e1;obtain ⟨env3,g1,g2⟩:=hF.frames _ _ _ e1;refine ⟨fun s=>(env3 s).ren (jI d) (sg d),by rw [hlh n hb,g1]; rfl,fun s hs=>?_⟩;have kb:=lD hback (env1 s) hs.1;show (env3 s).ren (jI d) (sg d)=env1 s;rw [g2 s ⟨kb.1,AV.ren_noGd hs.2⟩,kb.2]
 ·cases hb:bad n
  ·exfalso;rw [hlh n hb] at hn;simp only [NB] at hn;obtain ⟨e0,g1,g2⟩:=hn;cases e0 <;> simp only [LE.ren,reduceCtorEq] at g2;have:=hT'.row _ _ _ _ g1 (by rw [hF.lock,hku]; exact hl);rw [zQ,hb] at this;cases this
  ·rfl
 ·have hn':(bif Nat.beq (sg d n) cU then none else mc (jI d) (sg d) S'.lh n)=some (.frame tm1 env1):=hn;cases hfr:Nat.beq (sg d n) cU
  ·rw [hfr] at hn';simp only [NK,mc] at hn';cases ho:Nat.beq (jI d (sg d n)) n
   ·rw [ho] at hn'; cases hn'
   ·rw [ho] at hn';simp only [N2,NB] at hn';obtain ⟨e0,g1,g2⟩:=hn';cases e0 <;> simp only [LE.ren,reduceCtorEq] at g2;have hlk:=hT'.frame _ _ _ g1;rw [hF.lock] at hlk;rcases hko _ hlk with h1 | ⟨m,h1⟩
    ·rw [h1] at hfr; simp at hfr
    ·rw [h1,hku] at hlk;have:=Nz ho;rw [h1] at this;have e2:jI d (iu m)=m:=by unfold jI; rw [yh,yi]; rfl
     rw [e2] at this;subst this;exact hlk
  ·rw [hfr] at hn'; cases hn'
end
def MD (ops:Array Oper) (i:Nat):Bool:=match ops[i]? with
 | some o=>o.guard.isNone&&match o.op with
  | .move _=>true
  | .fieldAddr ..=>true
  | _=>false
 | none=>false
def qf (P:Program) (ss:Specs) (ops:Array Oper):Nat->Array Bool->St->(St->Prop)->Prop
 | 0,listed,S,K=>if (Region.ready .any ops listed).isEmpty then K S else False
 | fuel+1,listed,S,K=>if (Region.ready .any ops listed).isEmpty then K S else
   match (Region.ready .any ops listed).find? (fun i=>MD ops i&&Region.free .any ops listed i) with
   | some i=>(match ops[i]? with
    | some o=>(match ns P ss S [] o,o.dst with
     | some (ps,r),some d=>if Nat.blt d S.n&&Region.noSelect ops then ps.foldr And (qf P ss ops fuel (listed.setIfInBounds i true) (S.set d (r.opn [])) K) else False
     | _,_=>False)
    | none=>False)
   | none=>(Region.ready .any ops listed).foldr (fun i acc=>(match ops[i]? with
    | some o=>if o.guard.isNone then (match zu P ss ops o S with
      | some (ps,S1)=>ps.foldr And (qf P ss ops fuel (listed.setIfInBounds i true) S1 K)
      | none=>False) else False
    | none=>False)/\acc) True
theorem qz {q:Prop}:∀ (ps:List Prop),ps.foldr And q->(∀ x∈ps,x)/\q
 | [],h=>⟨fun x hx=>(by cases hx),h⟩
 | p::ps,h=>by
  obtain ⟨h1,h2⟩:=qz ps h.2;refine ⟨fun x hx=>?_,h2⟩;rcases NG.1 hx with rfl | hx
  ·exact h.1
  ·exact h1 x hx
theorem uw {α:Type} {f:α->Prop}:∀ (l:List α),l.foldr (fun i acc=>f i/\acc) True->∀ i∈l,f i
 | [],_,_,hi=>by cases hi
 | x::l,h,i,hi=>by
  rcases NG.1 hi with rfl | hi
  ·exact h.1
  ·exact uw l h.2 i hi
section
variable {M:Nat->Prop} {p0:PH} {w0:World} {P:Program} {ss:Specs} {ops:Array Oper}
theorem J2 (hss:ss.okA P M w0) {Q:Exit->Act->World->Prop} {K:Act->World->Prop} {o:Oper} {S S1:St} {ps1:List Prop} {a:Act} {w:World} (hg:o.guard=none) (h1:zu P ss ops o S=some (ps1,S1)) (hp1:∀ q∈ps1,q)
  (hS:Sat M p0 w0 S a.tmps w) (nextK:∀ a' w',Sat M p0 w0 S1 a'.tmps w'->a'.defers=a.defers->K a' w'):o.wp P a w K Q:=by
 obtain ⟨p,β,hB⟩:=hS;unfold zu at h1;rw [hg] at h1;simp only at h1;split at h1
 ·rename_i ps' r d hv hd;split at h1 <;> simp only [Jg,Ny,reduceCtorEq] at h1 <;> obtain ⟨rfl,rfl⟩:=h1;rename_i hdn;refine qA hB hss (aI _) hv hp1 K Q (fun v w' p' hS' hle hr=>?_);rw [hd];exact nextK _ w' ⟨p',β,hS'.set (cX hdn) (eP (cd _ _) (cQ (aI _) _ _ hr))⟩ rfl
 ·split at h1
  ·rename_i x hx;injection h1 with h1
   subst h1;split at hx <;> try cases hx
   exact qG hB hss hx hp1 K Q nextK
  ·split at h1 <;> try cases h1
   rename_i ps' r d hv hd;split at h1 <;> simp only [Jg,Ny,reduceCtorEq] at h1 <;> obtain ⟨rfl,rfl⟩:=h1;rename_i hdn;refine jm hB hss (aI _) hv hp1 K Q (fun v w' p' hS' hle hr=>?_);rw [hd];exact nextK _ w' ⟨p',β,hS'.set (cX hdn) (eP (cd _ _) (cQ (aI _) _ _ hr))⟩ rfl
theorem Kb {S:St} {w0':World} {p:PH} {β:Nat->Value} {a:Act} (hB:SatB M p0 w0 S a.tmps w0' p β) {i:Nat} {o:Oper} (ho:ops[i]?=some o) (he:MD ops i=true) {ps:List Prop} {r:AV} (h:ns P ss S [] o=some (ps,r)) :
  o.guard=none/\∃ v,(∀ w,(execOp a.eval o).run P w=.ok (.value v) w)/\r.val p β a.tmps v:=by
 unfold MD at he;rw [ho] at he;simp only [NA,Option.isNone_iff_eq_none] at he;refine ⟨he.1,?_⟩;have he:=he.2;split at he
 ·rename_i x hop;unfold ns at h;rw [hop] at h;simp only [Jg,Ny] at h;obtain ⟨_,rfl⟩:=h;exact ⟨a.eval x,fun w=>by simp only [execOp,hop]; rfl,aQ hB (aI _) x⟩
 ·rename_i s x k hop;unfold ns at h;rw [hop] at h;simp only at h;have hx:=aQ hB (aI _) x;unfold j7 at h;split at h <;> try cases h
  rename_i fs hu;split at h <;> try cases h
  rename_i f hf;split at h <;> try cases h
  rename_i inf hi;split at h
  ·cases h
  rename_i hz;have hz:inf.size≠0:=by intro e; rw [e] at hz; simp at hz
  have run:∀ (w:World) b o,(Instr.fieldAt s (.pointer (some ⟨b,o,none⟩)) k).run P w=.ok (.pointer (some ⟨b,o+f.offset,none⟩)) w:=by
   intro w b o;simp [Instr.fieldAt,NV hu,hf,Instr.sureAddr,fieldPlace,sizeOf,typeInfo,hi,hz,fE]
  have fin:∀ (b o':Nat),a.eval x=.pointer (some ⟨b,o',none⟩)->∀ w,(execOp a.eval o).run P w=.ok (.value (.pointer (some ⟨b,o'+f.offset,none⟩))) w:=by
   intro b o' e w;simp only [execOp,hop,e,NU,run w b o',NM,N3]
  split at h <;> simp only [Jg,Ny,reduceCtorEq] at h <;> obtain ⟨rfl,rfl⟩:=h
  ·rename_i T y off hl;rw [hl] at hx;obtain ⟨b,o',es,e1,hh,hc⟩:=hx;exact ⟨_,fin _ _ e1,b,o',es,by rw [PC],hh,hc⟩
  ·rename_i d off hl;rw [hl] at hx;obtain ⟨b,e1,e2⟩:=hx;exact ⟨_,fin _ _ e2,b,e1,rfl⟩
  ·rename_i d T n off hl;rw [hl] at hx;obtain ⟨b,e1,e2⟩:=hx;exact ⟨_,fin _ _ e2,b,e1,by rw [PC]⟩
 ·cases he
theorem yG (hss:ss.okA P M w0) {L:List Nat} {bad:Nat->Bool} (hN:Named L bad) (hdst:∀ o∈ops.toList,∀ d,o.dst=some d->L.contains d=true) {ds:List Deferred} {S0:St} {K:St->Prop} {Q:Exit->Act->World->Prop} (hQp:∀ c a w,¬ Q (.panic c) a w)
  (hQ:∀ S' a' w',K S'->Fr L bad S0 S'->Tidy bad S'->Sat M p0 w0 S' a'.tmps w'->a'.defers=ds->Q .normal a' w') :
  ∀ (fuel:Nat) (listed:Array Bool) (S:St) (a:Act) (w:World),qf P ss ops fuel listed S K->Fr L bad S0 S->Tidy bad S->Sat M p0 w0 S a.tmps w->a.defers=ds->wpAny P .any ops Q fuel listed a w:=by
 intro fuel
 induction fuel with
 | zero =>
  intro listed S a w h hF hT hS hd;unfold qf at h;split at h
  ·rename_i he;exact ⟨List.isEmpty_iff.1 he,hQ S a w h hF hT hS hd⟩
  ·exact h.elim
 | succ fuel ih =>
  intro listed S a w h hF hT hS hd;unfold qf at h;split at h
  ·rename_i he;refine ⟨fun _=>hQ S a w h hF hT hS hd,fun i hi=>?_⟩;rw [List.isEmpty_iff.1 he] at hi;cases hi
  ·rename_i he;split at h
   ·rename_i i hfind;have hi:=List.mem_of_find?_eq_some hfind;have hc:=List.find?_some hfind;simp only [NA] at hc;split at h
    case h_2=>exact h.elim
    rename_i o ho;split at h
    case h_2=>exact h.elim
    rename_i ps r d hev hdo;split at h
    case isFalse=>exact h.elim
    rename_i hb;simp only [NA] at hb;obtain ⟨p,β,hB⟩:=hS;obtain ⟨hg,v,hrun,hv⟩:=Kb hB ho hc.1 hev;obtain ⟨hp,h⟩:=qz ps h;have hmem:o∈ops.toList:=Oy (show ops.toList[i]?=some o by simpa using ho);refine wpAny_take ho hb.2 hc.2 (by simpa using hi) (fun c a w hq=>absurd hq (hQp c _ w)) (.inl ⟨by simp [Region.wanted,hg],hrun⟩) ?_;rw [hdo];exact ih _ (S.set d (r.opn [])) (a.put (some d) v) w h (hF.trans (ii (hdst o hmem d hdo) _)) (ei hT _ _) ⟨p,β,hB.set (cX hb.1) (eP (cd _ _) (cQ (aI _) _ _ hv))⟩ hd
   refine ⟨fun e=>by rw [e] at he; exact absurd rfl he,fun i hi=>?_⟩;have h:=uw _ h i hi;unfold wpOp;split at h
   ·rename_i o ho;split at h
    ·rename_i hg;have hg:o.guard=none:=by simpa using hg
     split at h
     ·rename_i ps S1 h1;obtain ⟨hp,h⟩:=qz ps h;have hmem:o∈ops.toList:=Oy (show ops.toList[i]?=some o by simpa using ho);have hfr:=zk (L:=L) hN hT (hdst o hmem) h1;simp only [ho];rw [if_pos (by simp [Region.wanted,hg])];refine .inl (J2 hss hg h1 hp hS fun a' w' hS' hd'=>?_);exact ih _ S1 a' w' h (hF.trans hfr.1) hfr.2 hS' (hd'.trans hd)
     ·exact h.elim
    ·exact h.elim
   ·exact h.elim
end
end Go.Proofs.YtmfileeamnfpaaaGreatDoor
