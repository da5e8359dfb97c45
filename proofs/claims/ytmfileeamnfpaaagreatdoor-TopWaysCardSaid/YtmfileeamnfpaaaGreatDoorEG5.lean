
import Derived.Test.YtmfileeamnfpaaaGreatDoorEG4
namespace Go.Proofs.YtmfileeamnfpaaaGreatDoor
open Go
def jW:AV->AV->Option (List Prop)
 | .any,.any=>some []
 | .int k a,.int k' b=>if k=k' then some [a=b] else none
 | .bool a,.bool b=>some [a=b]
 | .str a,.str b=>some [a=b]
 | .nils,.nils=>some []
 | .sl T xs,.sl T' ys=>if h:T'=T then some [xs=h ▸ ys] else none
 | .own d,.own d'=>if d=d' then some [] else none
 | .mp d,.mp d'=>if d=d' then some [] else none
 | .loc d o,.loc d' o'=>if d=d'/\o=o' then some [] else none
 | .pt T x o,.pt T' y o'=>if h:T'=T then (if o=o' then some [x=h ▸ y] else none) else none
 | .el d T i o,.el d' T' i' o'=>if d=d'/\T=T'/\o=o' then some [i=i'] else none
 | .nilm,.nilm=>some []
 | .nilf,.nilf=>some []
 | .pair a b,.pair a' b'=>match jW a a',jW b b' with
  | some p,some q=>some (p++q)
  | _,_=>none
 | .tnil,.tnil=>some []
 | .tup a b,.tup a' b'=>match jW a a',jW b b' with
  | some p,some q=>some (p++q)
  | _,_=>none
 | _,_=>none
theorem FW:∀ (x y:AV) (ps:List Prop),jW x y=some ps->(∀ q∈ps,q)->x=y:=by
 intro x
 induction x with
 | pair a b iha ihb =>
  intro y ps h hp;cases y <;> simp only [jW,reduceCtorEq] at h;rename_i a' b';split at h <;> simp only [Ps,reduceCtorEq] at h;rename_i p q h1 h2;subst h;rw [iha a' p h1 (fun z hz=>hp z (PE _ hz)),ihb b' q h2 (fun z hz=>hp z (PK _ hz))]
 | tup a b iha ihb =>
  intro y ps h hp;cases y <;> simp only [jW,reduceCtorEq] at h;rename_i a' b';split at h <;> simp only [Ps,reduceCtorEq] at h;rename_i p q h1 h2;subst h;rw [iha a' p h1 (fun z hz=>hp z (PE _ hz)),ihb b' q h2 (fun z hz=>hp z (PK _ hz))]
 | tnil=>intro y ps h hp; cases y <;> simp only [jW,reduceCtorEq] at h <;> rfl
 | int k a =>
  intro y ps h hp;cases y <;> simp only [jW,reduceCtorEq] at h;split at h <;> simp only [Ps,reduceCtorEq] at h;rename_i hk;subst h hk;rw [hp _ (PV)]
 | bool a =>
  intro y ps h hp;cases y <;> simp only [jW,reduceCtorEq,Ps] at h;subst h;rw [hp _ (PV)]
 | str a =>
  intro y ps h hp;cases y <;> simp only [jW,reduceCtorEq,Ps] at h;subst h;rw [hp _ (PV)]
 | sl T xs =>
  intro y ps h hp;cases y <;> simp only [jW,reduceCtorEq] at h;split at h <;> simp only [Ps,reduceCtorEq] at h;rename_i hT;subst hT h;rw [hp _ (PV)]
 | own d =>
  intro y ps h hp;cases y <;> simp only [jW,reduceCtorEq] at h;split at h <;> simp only [Ps,reduceCtorEq] at h;rename_i hd;rw [hd]
 | mp d =>
  intro y ps h hp;cases y <;> simp only [jW,reduceCtorEq] at h;split at h <;> simp only [Ps,reduceCtorEq] at h;rename_i hd;rw [hd]
 | loc d o =>
  intro y ps h hp;cases y <;> simp only [jW,reduceCtorEq] at h;split at h <;> simp only [Ps,reduceCtorEq] at h;rename_i hd;rw [hd.1,hd.2]
 | pt T x o =>
  intro y ps h hp;cases y <;> simp only [jW,reduceCtorEq] at h;split at h <;> try cases h
  rename_i hT;split at h <;> simp only [Ps,reduceCtorEq] at h;rename_i ho;subst hT ho h;rw [hp _ (PV)]
 | el d T i o =>
  intro y ps h hp;cases y <;> simp only [jW,reduceCtorEq] at h;split at h <;> simp only [Ps,reduceCtorEq] at h;rename_i hd;obtain ⟨rfl,rfl,rfl⟩:=hd;subst h;rw [hp _ (PV)]
 | any=>intro y ps h hp; cases y <;> simp only [jW,reduceCtorEq] at h <;> rfl
 | nils=>intro y ps h hp; cases y <;> simp only [jW,reduceCtorEq] at h <;> rfl
 | nilm=>intro y ps h hp; cases y <;> simp only [jW,reduceCtorEq] at h <;> rfl
 | nilf=>intro y ps h hp; cases y <;> simp only [jW,reduceCtorEq] at h <;> rfl
 | _=>intro y ps h hp; cases y <;> simp only [jW,reduceCtorEq] at h
structure Over (nm:Nat->Bool) (ex:Nat->Prop) (B B' T T':St):Prop where
 lh:T'.lh=T.lh
 n:T'.n=T.n
 lock:T'.lock=T.lock
 env:∀ s,B'.env s=B.env s->T'.env s=T.env s
 keep:∀ s,¬ ex s->(∀ k,nm k=true->(B'.env s).scrub (fun y=>Nat.beq y k)=B'.env s)->(B'.env s).noGd=true->T'.env s=B'.env s
section
variable {nm:Nat->Bool} {ex:Nat->Prop} {B B' T T':St}
theorem Over.entry (h:Over nm ex B B' T T') (d:Nat) (e:LE):Over nm ex B B' (T.entry d e) (T'.entry d e) :=
 ⟨by simp only [St.entry,h.lh],h.n,h.lock,h.env,h.keep⟩
theorem Over.freeze1 (h:Over nm ex B B' T T') (d:Nat):Over nm ex B B' (T.freeze1 d) (T'.freeze1 d):=by
 unfold St.freeze1;rw [h.lh,h.lock];split
 ·split
  ·exact h
  ·exact h.entry _ _
 ·split
  ·exact h
  ·exact h.entry _ _
 ·exact h
theorem Over.freeze:∀ (ds:List Nat) {T T':St},Over nm ex B B' T T'->Over nm ex B B' (T.freeze ds) (T'.freeze ds)
 | [],_,_,h=>h
 | d::ds,_,_,h=>Over.freeze ds (h.freeze1 d)
theorem Over.fresh (h:Over nm ex B B' T T') {d:Nat} (hd:nm d=true) (e:LE):Over nm ex B B' (T.fresh d e) (T'.fresh d e):=by
 refine ⟨by simp only [St.fresh,St.scrub,St.entry,h.lh],h.n,h.lock,fun s hs=>?_,fun s hex hs hg=>?_⟩
 ·show (T'.env s).scrub _=(T.env s).scrub _;rw [h.env s hs]
 ·show (T'.env s).scrub _=_;rw [h.keep s hex hs hg];exact hs d hd
theorem Over.set (h:Over nm ex B B' T T') {d:Nat} (hd:ex d) (a:AV):Over nm ex B B' (T.set d a) (T'.set d a):=by
 refine ⟨h.lh,h.n,h.lock,fun s hs=>?_,fun s hex hs hg=>?_⟩
 ·simp only [St.set,h.env s hs]
 ·have hne:s≠d:=fun e=>hex (e ▸ hd)
  simp only [St.set,dW hne,PF,h.keep s hex hs hg];exact gV hg
theorem Over.put (h:Over nm ex B B' T T') (R:RT) (x:R.den) {name:Nat} (hn:nm name=true):Over nm ex B B' (R.put x name T) (R.put x name T'):=by
 cases R with
 | dat _=>exact h
 | own e T0=>exact h.fresh hn _
 | map k V=>exact h.fresh hn _
theorem Over.res {d:Nat} (hn:∀ k,nm (bv d k)=true):∀ (Rs:List RT) (k:Nat) (x:eB Rs) {T T':St},Over nm ex B B' T T'->Over nm ex B B' (lf d k Rs x T) (lf d k Rs x T')
 | [],_,_,_,_,h=>h
 | [R],k,x,_,_,h=>h.put R x (hn k)
 | R::U::Rs,k,x,_,_,h=>Over.res hn (U::Rs) (k+1) x.2 (h.put R x.1 (hn k))
end
def ge (ss:Specs) (o:Oper):Bool:=match o.dst,o.op with
 | none,.store ..=>true
 | none,.mapUpdate ..=>true
 | some _,.call { callee:=.builtin .append,.. }=>true
 | some _,.call { callee:=.builtin .copy,.. }=>true
 | some _,.alloc ..=>true
 | some _,.makeSlice ..=>true
 | some _,.assign _=>true
 | some _,.slice _ _ none (some _) none=>ss.cut
 | some _,.call { callee:=.value (.func f),.. }=>(ss.row f).isSome||(match ss f with
  | some s=>!s.Rs.all RT.isDat
  | none=>false)
 | _,_=>false
def FE (o:Oper) (n:Nat):Bool:=match o.dst with
 | some d=>Nat.beq (n % 1000000) d
 | none=>false
theorem Fb {d:Nat} (hd:d<1000000) (k:Nat):Nat.beq (bv d k % 1000000) d=true:=by
 unfold bv;rw [Nat.add_mul_mod_self_left,Nat.mod_eq_of_lt hd];exact Nat.beq_refl d
theorem LM {P:Program} {ss:Specs} {o:Oper} {B B' T:St} {ps:List Prop} (hu:ge ss o=true) (hd:∀ d,o.dst=some d->d<1000000) (h:Mw P ss B o=some (ps,T)) (hl:B'.lh=B.lh) (hn:B'.n=B.n) (hk:B'.lock=B.lock)
  (hv:∀ x∈o.op.operands,B'.val x=B.val x):∃ T',Mw P ss B' o=some (ps,T')/\Over (FE o) (fun s=>o.dst=some s) B B' T T':=by
 have hlook:∀ x∈o.op.operands,B'.look [] x=B.look [] x:=fun x hx=>by unfold St.look; rw [hv x hx]
 have h0:Over (FE o) (fun s=>o.dst=some s) B B' B B':=⟨hl,hn,hk,fun s hs=>hs,fun _ _ _ _=>rfl⟩;obtain ⟨dst,op,type,pos,after,guard⟩:=o;unfold ge at hu;simp only at hu hd hlook hv h;cases dst with
 | none =>
  cases op <;> simp only [PG] at hu
  ·rename_i t ad v;have e1:=hlook ad (by simp [Op.operands]);have e2:=hlook v (by simp [Op.operands]);have h:kE P B t (B.look [] ad) (B.look [] v)=some (ps,T):=h
   have goal:∃ T',kE P B' t (B.look [] ad) (B.look [] v)=some (ps,T')/\Over (fun _=>false) (fun s=>(none:Option Tmp)=some s) B B' T T':=by
    have h0:Over (fun _=>false) (fun s=>(none:Option Tmp)=some s) B B' B B':=⟨hl,hn,hk,fun s hs=>hs,fun _ _ _ _=>rfl⟩;generalize B.look [] ad=A at *;generalize B.look [] v=V at *;unfold kE at h |-;have hfz:=(h0.freeze V.owns).lh;simp only [hl,hk,hfz];split at h <;> try cases h
    rename_i c hc;split at h <;> try cases h
    rename_i hc0;rw [if_neg hc0];split at h <;> try cases h
    ·split at h <;> try cases h
     rename_i cc hcc
     try simp only [hcc]
     split at h <;> simp only [Ps,Pv,reduceCtorEq] at h;rename_i hb;obtain ⟨rfl,rfl⟩:=h;rw [if_pos hb];exact ⟨_,rfl,h0.entry _ _⟩
    ·split at h;rotate_left
     ·rename_i c1 hcc
      try simp only [hcc]
      split at h <;> try cases h
      rename_i N c2 hput
      try simp only [hput]
      split at h <;> simp only [Ps,Pv,reduceCtorEq] at h;rename_i hb;obtain ⟨rfl,rfl⟩:=h;rw [if_pos hb];exact ⟨_,rfl,(h0.freeze _).entry _ _⟩
     ·cases h
     rename_i e' T' xs hcc
     try simp only [hcc]
     split at h <;> try cases h
     rename_i hT;rw [dif_pos hT];split at h <;> try cases h
     rename_i hb;rw [if_pos hb];split at h <;> simp only [Ps,Pv,reduceCtorEq] at h;rename_i y hy;obtain ⟨rfl,rfl⟩:=h
     try simp only [hy]
     exact ⟨_,rfl,(h0.freeze _).entry _ _⟩
   obtain ⟨T',g1,g2⟩:=goal;refine ⟨T',?_,⟨g2.lh,g2.n,g2.lock,g2.env,fun s hs hsc hg=>g2.keep s hs (fun k hk=>by cases hk) hg⟩⟩;show kE P B' t (B'.look [] ad) (B'.look [] v)=_;rw [e1,e2];exact g1
  ·rename_i t m x v;have e1:=hlook m (by simp [Op.operands]);have e2:=hlook x (by simp [Op.operands]);have e3:=hlook v (by simp [Op.operands]);have h:gq ss.opn P B t (B.look [] m) (B.look [] x) (B.look [] v)=some (ps,T):=h
   have goal:∃ T',gq ss.opn P B' t (B.look [] m) (B.look [] x) (B.look [] v)=some (ps,T')/\Over (fun _=>false) (fun s=>(none:Option Tmp)=some s) B B' T T':=by
    have h0:Over (fun _=>false) (fun s=>(none:Option Tmp)=some s) B B' B B':=⟨hl,hn,hk,fun s hs=>hs,fun _ _ _ _=>rfl⟩;generalize B.look [] m=A at *;generalize B.look [] x=X at *;generalize B.look [] v=V at *
    have key0:∀ T,gY P B t A X V=some (ps,T)->∃ T',gY P B' t A X V=some (ps,T')/\Over (fun _=>false) (fun s=>(none:Option Tmp)=some s) B B' T T':=by
     intro T h;unfold gY at h |-;have hfz:=(h0.freeze V.owns).lh;simp only [hk,hfz];split at h <;> try cases h
     rename_i k kt e d k' n' hm;split at h <;> try cases h
     rename_i k'' V' l hcc
     try simp only [hcc]
     split at h <;> try cases h
     rename_i hkk;rw [if_pos hkk];split at h <;> try cases h
     rename_i hlk;rw [if_neg hlk];split at h <;> simp only [Ps,Pv,reduceCtorEq] at h;rename_i y hy;obtain ⟨rfl,rfl⟩:=h
     try simp only [hy]
     exact ⟨_,rfl,(h0.freeze _).entry _ _⟩
    have keyO:∀ ps T,eQ P B t A X V=some (ps,T)->∃ T',eQ P B' t A X V=some (ps,T')/\Over (fun _=>false) (fun s=>(none:Option Tmp)=some s) B B' T T':=by
     intro ps T h;unfold eQ at h |-;simp only [hl,hk];split at h <;> try cases h
     split at h <;> try cases h
     rename_i hcc
     try simp only [hcc]
     split at h <;> try cases h
     rename_i hkk;rw [if_pos hkk];split at h <;> try cases h
     rename_i hlk;rw [if_neg hlk];split at h <;> simp only [Ps,Pv,reduceCtorEq] at h;rename_i hlf;obtain ⟨rfl,rfl⟩:=h;rw [if_pos hlf];exact ⟨_,rfl,h0.entry _ _⟩
    have noO:eQ P B t A X V=none->eQ P B' t A X V=none:=by
     intro h;unfold eQ at h |-;simp only [hl,hk];split at h <;> try rfl
     split at h <;> try rfl
     rename_i hcc
     try simp only [hcc]
     split at h;rotate_left
     ·rename_i hkk;rw [if_neg hkk]
     rename_i hkk;rw [if_pos hkk];split at h
     ·rename_i hlk;rw [if_pos hlk]
     rename_i hlk;rw [if_neg hlk];split at h
     ·cases h
     ·rename_i hlf;rw [if_neg hlf]
    unfold gq at h |-;cases ho:ss.opn with
    | true =>
     rw [ho] at h;simp only [PZ] at h |-;unfold lr at h |-;simp only [hl,hk];split at h <;> try cases h
     split at h <;> try cases h
     rename_i hcc
     try simp only [hcc]
     split at h <;> try cases h
     rename_i hkk;rw [if_pos hkk];split at h <;> try cases h
     rename_i hlk;rw [if_neg hlk];split at h <;> simp only [Ps,Pv,reduceCtorEq] at h;rename_i hlf;obtain ⟨rfl,rfl⟩:=h;rw [if_pos hlf];exact ⟨_,rfl,h0.entry _ _⟩
    | false =>
     rw [ho] at h;simp only [PF] at h |-;cases h1:eQ P B t A X V with
     | some r =>
      rw [h1] at h;injection h with h
      subst h;obtain ⟨T',g1,g2⟩:=keyO _ _ h1;rw [g1];exact ⟨T',rfl,g2⟩
     | none =>
      rw [h1] at h;rw [noO h1];exact key0 _ h
   obtain ⟨T',g1,g2⟩:=goal;refine ⟨T',?_,⟨g2.lh,g2.n,g2.lock,g2.env,fun s hs hsc hg=>g2.keep s hs (fun k hk=>by cases hk) hg⟩⟩;show gq ss.opn P B' t (B'.look [] m) (B'.look [] x) (B'.look [] v)=_;rw [e1,e2,e3];exact g1
 | some d =>
  have hd:=hd d rfl;have hnm:∀ k,FE { dst:=some d,op:=op,type:=type,pos:=pos,after:=after,guard:=guard } (bv d k)=true:=fun k=>Fb hd k
  have hnd:FE { dst:=some d,op:=op,type:=type,pos:=pos,after:=after,guard:=guard } d=true:=by
   have:=hnm 0;simpa [bv] using this
  cases op with
  | call c =>
   obtain ⟨callee,args,argTypes⟩:=c;have hargs:args.toList.map (B'.look [])=args.toList.map (B.look []):=QW fun x hx=>hlook x (by simp only [Op.operands,Call.operands,Rk]; exact .inr (by simpa using hx))
   cases callee with
   | builtin b =>
    cases b <;> simp only [PG] at hu
    case copy =>
     have h:(match args.toList,argTypes.toList with
      | [x,y],[t,_]=>oI P B d t (B.look [] x) (B.look [] y)
      | _,_=>none)=some (ps,T):=h
     show ∃ T',(match args.toList,argTypes.toList with
      | [x,y],[t,_]=>oI P B' d t (B'.look [] x) (B'.look [] y)
      | _,_=>none)=some (ps,T')/\_
     split at h <;> try cases h
     rename_i x y t t' ha ht;rw [ha] at hargs;simp only [Qf,Rq,List.cons.injEq,RB] at hargs;simp only [hargs.1,hargs.2];generalize B.look [] x=A at *;generalize B.look [] y=X at *;unfold oI at h |-;simp only [hl,hk,hn];split at h <;> try cases h
     rename_i d1 i n qs T0 ys hsp hys
     try simp only [hsp,hys]
     split at h <;> try cases h
     rename_i e T1 xs iC
     try simp only [iC]
     split at h <;> try cases h
     rename_i hT;rw [dif_pos hT];split at h <;> simp only [Ps,Pv,reduceCtorEq] at h;rename_i hb;obtain ⟨rfl,rfl⟩:=h;rw [if_pos hb];exact ⟨_,rfl,(h0.entry _ _).set rfl _⟩
    have h:(match args.toList,argTypes.toList with
     | [s,x],[t,t']=>if Nat.beq t t' then jU P B d t (B.look [] s) (B.look [] x) else fc P B d t t' (B.look [] s) (B.look [] x)
     | _,_=>none)=some (ps,T):=h
    show ∃ T',(match args.toList,argTypes.toList with
     | [s,x],[t,t']=>if Nat.beq t t' then jU P B' d t (B'.look [] s) (B'.look [] x) else fc P B' d t t' (B'.look [] s) (B'.look [] x)
     | _,_=>none)=some (ps,T')/\_
    split at h <;> try cases h
    rename_i s x t t' ha ht;rw [ha] at hargs;simp only [Qf,Rq,List.cons.injEq,RB] at hargs;simp only [hargs.1,hargs.2];generalize B.look [] s=A at *;generalize B.look [] x=X at *;split at h
    ·rename_i htt;rw [if_pos htt];unfold jU at h |-;simp only [hl,hk,hn];split at h <;> try cases h
     rename_i e he
     try simp only [he]
     split at h <;> try cases h
     rename_i T0 ys hys
     try simp only [hys]
     split at h <;> try cases h
     rename_i hb;rw [if_pos hb];split at h
     ·simp only [Ps,Pv] at h;obtain ⟨rfl,rfl⟩:=h;exact ⟨_,rfl,(h0.fresh hnd _).set rfl _⟩
     ·rename_i d1;split at h <;> try cases h
      rename_i e' T' xs iC
      try simp only [iC]
      split at h <;> try cases h
      rename_i hT;rw [dif_pos hT];split at h <;> simp only [Ps,Pv,reduceCtorEq] at h;rename_i hb2;obtain ⟨rfl,rfl⟩:=h;rw [if_pos hb2];exact ⟨_,rfl,((h0.entry _ _).fresh hnd _).set rfl _⟩
     ·cases h
    ·rename_i htt;rw [if_neg htt];unfold fc at h |-;simp only [hk,hn];split at h <;> try cases h
     rename_i e k he hk'
     try simp only [he,hk']
     split at h <;> try cases h
     rename_i T0 hT0
     try simp only [hT0]
     split at h <;> try cases h
     rename_i i hi
     try simp only [hi]
     split at h <;> try cases h
     rename_i z hz
     try simp only [hz]
     split at h <;> try cases h
     rename_i y k2 n hy
     try simp only [hy]
     split at h <;> simp only [Ps,Pv,reduceCtorEq] at h;rename_i hb;obtain ⟨rfl,rfl⟩:=h;rw [if_pos hb];exact ⟨_,rfl,(h0.fresh hnd _).set rfl _⟩
   | value f =>
    cases f <;> simp only [PG] at hu;rename_i f;have h:lP P ss B d f args.toList=some (ps,T):=h;show ∃ T',lP P ss B' d f args.toList=some (ps,T')/\_;unfold lP at h |-;split at h
    ·rename_i r hr;split at h <;> try cases h
     rename_i a rest ha;rw [ha] at hargs;simp only [Qf,List.cons.injEq] at hargs;split at h <;> try cases h
     rename_i hcal;rw [if_pos hcal,hargs.1,hargs.2];generalize B.look [] a=A at *;generalize rest.map (B.look [])=R at *;unfold jC at h |-;have hfz:=h0.freeze ((r.mid R).flatMap AV.owns);simp only [hk,hn,hfz.lh];split at h <;> try cases h
     rename_i n xs hn1
     try simp only [hn1]
     split at h <;> try cases h
     rename_i ys x hys hx
     try simp only [hys,hx]
     split at h <;> simp only [Ps,Pv,reduceCtorEq] at h;rename_i hb;obtain ⟨rfl,rfl⟩:=h;rw [if_pos hb];refine ⟨_,rfl,?_⟩;cases r.out
     ·exact (hfz.entry _ _).set rfl _
     ·exact ((hfz.entry _ _).fresh hnd _).set rfl _
    ·rename_i r hr;split at h <;> try cases h
     rename_i a rest ha;rw [ha] at hargs;simp only [Qf,List.cons.injEq] at hargs;split at h <;> try cases h
     rename_i hcal;rw [if_pos hcal,hargs.1,hargs.2];generalize B.look [] a=A at *;generalize rest.map (B.look [])=R at *;unfold jD at h |-;split at h <;> try cases h
     rename_i n;have hbo:dj B' n=dj B n:=by unfold dj; rw [hl]
     have hfz:=h0.freeze (dj B n++R.flatMap AV.owns);simp only [hbo,hk,hn,hfz.lh];split at h <;> try cases h
     rename_i c hc
     try simp only [hc]
     split at h <;> try cases h
     rename_i x y hx hy
     try simp only [hx,hy]
     split at h <;> simp only [Ps,Pv,reduceCtorEq] at h;rename_i hb;obtain ⟨rfl,rfl⟩:=h;rw [if_pos hb];exact ⟨_,rfl,(Over.res hnm r.Rs 0 _ (hfz.entry _ _)).set rfl _⟩
    ·have hcs:Over (FE { dst:=some d,op:=Op.call { callee:=.value (.func f),args:=args,argTypes:=argTypes },type:=type,pos:=pos,after:=after,guard:=guard }) (fun s=>(some d:Option Tmp)=some s) B B' (fL ss B f args.toList) (fL ss B' f args.toList):=by
      unfold fL;split
      ·split
       ·rw [hargs];exact h0.freeze _
       ·exact h0
      ·exact h0
     have hcl:args.toList.map ((fL ss B' f args.toList).look [])=args.toList.map ((fL ss B f args.toList).look []):=by
      have e:∀ (S:St) (x:Operand),(fL ss S f args.toList).look [] x=S.look [] x:=by
       intro S x;unfold fL;split
       ·split
        ·rw [Dk]
        ·rfl
       ·rfl
      exact (QW fun x _=>e B' x).trans (hargs.trans (QW fun x _=>(e B x).symm))
     simp only [hcl,hcs.lh,hn];split at h <;> try cases h
     rename_i q0 Rs x he
     try simp only [he]
     split at h <;> simp only [Ps,Pv,reduceCtorEq] at h;rename_i hb;obtain ⟨rfl,rfl⟩:=h
     have hb':(Nat.blt d B.n&&kw B' d 0 Rs)=true:=by
      have:∀ (Rs:List RT) (k:Nat),kw B' d k Rs=kw B d k Rs:=by
       intro Rs
       induction Rs with
       | nil=>intro k; rfl
       | cons R Rs ih=>intro k; cases R <;> simp only [kw,hk,ih]
      rw [this];exact hb
     rw [if_pos hb'];exact ⟨_,rfl,(Over.res hnm Rs 0 x hcs).set rfl _⟩
   | _=>simp only [PG] at hu
  | alloc elem =>
   have h:lS P B d elem=some (ps,T):=h;show ∃ T',lS P B' d elem=some (ps,T')/\_;unfold lS at h |-;simp only [hk,hn];split at h <;> try cases h
   rename_i i hi
   try simp only [hi]
   split at h <;> try cases h
   rename_i z hz
   try simp only [hz]
   split at h <;> simp only [Ps,Pv,reduceCtorEq] at h;rename_i hb;obtain ⟨rfl,rfl⟩:=h;rw [if_pos hb];exact ⟨_,rfl,(h0.fresh hnd _).set rfl _⟩
  | makeSlice t l c =>
   have e1:=hlook l (by simp [Op.operands]);have h:(if lC l c then oF P B d t (B.look [] l) else none)=some (ps,T):=h;show ∃ T',(if lC l c then oF P B' d t (B'.look [] l) else none)=some (ps,T')/\_;split at h <;> try cases h
   rename_i hlc;rw [if_pos hlc,e1];generalize B.look [] l=A at *;unfold oF at h |-;simp only [hk,hn];split at h <;> try cases h
   rename_i e he
   try simp only [he]
   split at h <;> try cases h
   rename_i T0 hT0
   try simp only [hT0]
   split at h <;> try cases h
   rename_i i hi
   try simp only [hi]
   split at h <;> try cases h
   rename_i z hz
   try simp only [hz]
   split at h <;> try cases h
   rename_i y k2 n hy
   try simp only [hy]
   split at h <;> simp only [Ps,Pv,reduceCtorEq] at h;rename_i hb;obtain ⟨rfl,rfl⟩:=h;rw [if_pos hb];exact ⟨_,rfl,(h0.fresh hnd _).set rfl _⟩
  | assign x =>
   have e1:=hlook x (by simp [Op.operands]);have h:(if Nat.blt d B.n then some (([]:List Prop),B.set d (B.look [] x)) else none)=some (ps,T):=h;show ∃ T',(if Nat.blt d B'.n then some (([]:List Prop),B'.set d (B'.look [] x)) else none)=some (ps,T')/\_;split at h <;> simp only [Ps,Pv,reduceCtorEq] at h;rename_i hb;obtain ⟨rfl,rfl⟩:=h;rw [hn,if_pos hb,e1];exact ⟨_,rfl,h0.set rfl _⟩
  | slice t x lo hi mx =>
   cases lo with
   | some _=>simp only [PG] at hu
   | none =>
   cases hi with
   | none=>simp only [PG] at hu
   | some hh =>
   cases mx with
   | some _=>simp only [PG] at hu
   | none =>
   have e1:=hlook x (by simp [Op.operands]);have e2:=hlook hh (by simp [Op.operands]);have h:vf P B d t (B.look [] x) (B.look [] hh)=some (ps,T):=h;show ∃ T',vf P B' d t (B'.look [] x) (B'.look [] hh)=some (ps,T')/\_;rw [e1,e2];generalize B.look [] x=A at *;generalize B.look [] hh=H at *;unfold vf at h |-;simp only [hl,hk,hn];split at h <;> try cases h
   rename_i d1 k b;split at h <;> try cases h
   rename_i e T0 xs iC
   try simp only [iC]
   split at h <;> simp only [Ps,Pv,reduceCtorEq] at h;rename_i hb;obtain ⟨rfl,rfl⟩:=h;rw [if_pos hb];exact ⟨_,rfl,((h0.entry _ _).fresh hnd _).set rfl _⟩
  | _=>simp only [PG] at hu
def dr (L:Nat->Bool):Nat->List (Option (Nat×AV))->List (Nat×AV)
 | _,[]=>[]
 | i,none::es=>dr L (i+1) es
 | i,some (d,a)::es=>(d,bif L i then a else .any)::dr L (i+1) es
def dQ (ops:Array Oper) (i j:Nat):Bool:=((eU ops).getD i 0).testBit j
def xU (ss:Specs) (ops:Array Oper) (k i:Nat) (o:Oper):Bool :=
 (bq o).all (fun e=>Nat.blt e i) &&
 (o.op.operands.toList.all fun x=>match x with
  | .tmp t=>(List.range k).all fun j=>match ops[j]? with
   | some oj=>ge ss oj||(match oj.dst with
    | some d=>!Nat.beq d t||(bq o).contains j
    | none=>true)
   | none=>true
  | _=>true)
theorem lE {ss:Specs} {ops:Array Oper} {k i:Nat} {o:Oper} (h:xU ss ops k i o=true):(∀ e∈bq o,e<i)/\∀ t,Operand.tmp t∈o.op.operands->∀ (j:Nat) oj,j<k->ops[j]?=some oj->ge ss oj=false->oj.dst=some t->j∈bq o:=by
 simp only [xU,Px] at h;obtain ⟨h1,h2⟩:=h;refine ⟨fun e he=>by simpa using PA.1 h1 e he,fun t ht j oj hj ho hu hd=>?_⟩;have:=PA.1 h2 (.tmp t) (by simpa using ht);simp only at this;have:=PA.1 this j (by simpa using hj);simp only [ho,hu,hd,Re,Qq,PX] at this;rcases this with h | h
 ·simp at h
 ·simpa using h
def tg (ss:Specs) (ops:Array Oper):List Nat:=ops.toList.filterMap fun o=>if ge ss o then none else o.dst
def Ex (ss:Specs) (ops:Array Oper) (S:St):St:=gK S.clean ((tg ss ops).map fun d=>(d,.any))
def iS (P:Program) (ss:Specs) (ops:Array Oper):List Oper->Nat->St->List (Option (Nat×AV))->Option (List Prop×List St×List (Option (Nat×AV)))
 | [],_,S,ent=>some ([],[S],ent)
 | o::os,i,S,ent =>
  if ge ss o then match Mw P ss (gK S (dr (dQ ops i) 0 ent)) o with
   | some (ps,T)=>(match iS P ss ops os (i+1) (Ex ss ops T) (ent++[none]) with
    | some (qs,Ss,ent')=>some (ps++qs,S::Ss,ent')
    | none=>none)
   | none=>none
  else match FV P ss (gK S (dr (dQ ops i) 0 ent)) [] o,o.dst with
   | some (ps,r),some d=>(match iS P ss ops os (i+1) S (ent++[some (d,r.opn [])]) with
    | some (qs,Ss,ent')=>some (ps++qs,Ss,ent')
    | none=>none)
   | _,_=>none
def ec (ss:Specs) (ops:Array Oper) (i:Nat):Nat:=((ops.toList.take i).filter (ge ss)).length
def GR (ss:Specs) (ops:Array Oper) (j m:Nat):Bool :=
 (List.range ops.size).all fun e=>match ops[e]? with
  | some o=>!ge ss o||(if m<=ec ss ops e then !dQ ops j e else !dQ ops e j)
  | none=>true
def Jv (P:Program) (ss:Specs) (ops:Array Oper) (Ss:List St) (ent:List (Option (Nat×AV))) (j:Nat) (o:Oper) (r:AV):List Nat->Option (List Prop)
 | []=>some []
 | m::ms=>if Nat.beq m (ec ss ops j)||!GR ss ops j m then Jv P ss ops Ss ent j o r ms else
   match Ss[m]? with
   | none=>none
   | some S=>match FV P ss (gK S (dr (dQ ops j) 0 ent)) [] o with
    | none=>none
    | some (qs,r')=>match jW (r'.opn []) r,Jv P ss ops Ss ent j o r ms with
     | some es,some rest=>some (qs++es++rest)
     | _,_=>none
def Jw (P:Program) (ss:Specs) (ops:Array Oper) (Ss:List St) (ent:List (Option (Nat×AV))):List Oper->Nat->Option (List Prop)
 | [],_=>some []
 | o::os,j=>match ent[j]? with
  | some (some (_,r))=>(match Jv P ss ops Ss ent j o r (List.range Ss.length),Jw P ss ops Ss ent os (j+1) with
   | some p,some q=>some (p++q)
   | _,_=>none)
  | _=>Jw P ss ops Ss ent os (j+1)
def wF (d:Nat):AV->Bool
 | .own n=>!Nat.beq (n % 1000000) d
 | .mp n=>!Nat.beq (n % 1000000) d
 | .loc n _=>!Nat.beq (n % 1000000) d
 | .el n _ _ _=>!Nat.beq (n % 1000000) d
 | .osl n _ _ _=>!Nat.beq (n % 1000000) d
 | .psl n _ _=>!Nat.beq (n % 1000000) d
 | .fn _ c1 c2=>(c1.all fun x=>!Nat.beq (x.1 % 1000000) d)&&(c2.all fun x=>!Nat.beq (x.1 % 1000000) d)
 | .pair a b=>wF d a&&wF d b
 | .tup a b=>wF d a&&wF d b
 | .gd ..=>false
 | _=>true
def Pi (ss:Specs) (ops:Array Oper) (n:Nat) (Ss:List St) (ent:List (Option (Nat×AV))):Bool :=
 ((List.range ops.size).all fun i=>match ops[i]? with
  | some o=>xU ss ops ops.size i o&&o.guard.isNone&&(match o.dst with
    | some d=>Nat.blt d n&&Nat.blt d 1000000
    | none=>true) &&
   (!ge ss o||((List.range i).all fun e=>match ops[e]? with
    | some oe=>!ge ss oe||dQ ops i e
    | none=>true)&&(List.range ent.length).all fun j=>dQ ops j i||match ent[j]? with
     | some (some (_,r))=>(match o.dst with
      | some d=>wF d r
      | none=>r.noGd)
     | _=>true)
  | none=>false) &&
 f9 (ops.toList.filterMap (·.dst))&&Ss.all (fun S=>Nat.beq S.n n)
def Dd (ops:Array Oper):Nat->Nat
 | 0=>0
 | n+1=>if (List.range n).all (fun j=>((eU ops).getD n 0).testBit j) then Dd ops n else n+1
def NV (ops:Array Oper) (k:Nat):Bool :=
 (List.range ops.size).all fun i=>match ops[i]? with
  | some o=>(bq o).all (fun e=>Nat.blt e i)&&(Nat.blt i k||(List.range i).all (fun j=>((eU ops).getD i 0).testBit j))
  | none=>false
def KF (P:Program) (ss:Specs) (ops:Array Oper) (k:Nat) (hd:Array Oper) (S:St):Option (List Prop×St) :=
 match iS P ss hd hd.toList 0 (Ex ss hd S) [] with
 | some (ps,Ss,ent)=>(match Jw P ss hd Ss ent hd.toList 0,Ss.getLast? with
  | some qs,some Sr=>if P.follows .mixedOrders&&Pi ss hd S.n Ss ent&&Nat.beq Ss.length (ec ss hd hd.size+1)&&(Nat.ble k ops.size&&NV ops k) then
    (match run P ss ops (ops.toList.drop k) (gK Sr (dr (fun _=>true) 0 ent)) with
    | some (qs2,S2)=>some (ps++(qs++qs2),S2)
    | none=>none) else none
  | _,_=>none)
 | none=>none
def xf (P:Program) (ss:Specs) (ops:Array Oper) (S:St):Option (List Prop×St):=KF P ss ops (Dd ops ops.size) (ops.toList.take (Dd ops ops.size)).toArray S
section
variable {M:Nat->Prop} {p0:PH} {w0:World} {P:Program} {ss:Specs} {ops:Array Oper} {Q:Exit->Act->World->Prop}
theorem FP {d:Nat}:∀ (x:AV),wF d x=true->(∀ k,Nat.beq (k % 1000000) d=true->x.scrub (fun y=>Nat.beq y k)=x)/\x.noGd=true:=by
 have key:∀ n k:Nat,(!Nat.beq (n % 1000000) d)=true->Nat.beq (k % 1000000) d=true->Nat.beq n k=false:=by
  intro n k h1 h2;apply dW;rintro rfl;rw [h2] at h1;cases h1
 intro x
 induction x with
 | own n=>intro h; exact ⟨fun k hk=>by simp only [AV.scrub,key n k h hk,PF],rfl⟩
 | mp n=>intro h; exact ⟨fun k hk=>by simp only [AV.scrub,key n k h hk,PF],rfl⟩
 | loc n o=>intro h; exact ⟨fun k hk=>by simp only [AV.scrub,key n k h hk,PF],rfl⟩
 | el n T i o=>intro h; exact ⟨fun k hk=>by simp only [AV.scrub,key n k h hk,PF],rfl⟩
 | osl n T i m=>intro h; exact ⟨fun k hk=>by simp only [AV.scrub,key n k h hk,PF],rfl⟩
 | psl n i m=>intro h; exact ⟨fun k hk=>by simp only [AV.scrub,key n k h hk,PF],rfl⟩
 | fn f c1 c2 =>
  intro h;simp only [wF,Px] at h;refine ⟨fun k hk=>?_,rfl⟩
  have a1:(c1.any fun x=>Nat.beq x.1 k)=false:=by
   rw [RW];intro y hy;rw [key _ _ (PA.1 h.1 y hy) hk];simp
  have a2:(c2.any fun x=>Nat.beq x.1 k)=false:=by
   rw [RW];intro y hy;rw [key _ _ (PA.1 h.2 y hy) hk];simp
  simp only [AV.scrub,a1,a2,Q0,PF]
 | pair a b iha ihb =>
  intro h;simp only [wF,Px] at h;exact ⟨fun k hk=>by simp only [AV.scrub,(iha h.1).1 k hk,(ihb h.2).1 k hk],rfl⟩
 | tup a b iha ihb =>
  intro h;simp only [wF,Px] at h;exact ⟨fun k hk=>by simp only [AV.scrub,(iha h.1).1 k hk,(ihb h.2).1 k hk],rfl⟩
 | gd g w a _=>intro h; cases h
 | _=>intro _; exact ⟨fun _ _=>rfl,rfl⟩
def vK (ent:List (Option (Nat×AV))):Prop:=∀ (i j s:Nat) (a b:AV),ent[i]?=some (some (s,a))->ent[j]?=some (some (s,b))->i=j
theorem kO (L:Nat->Bool) (s:Nat):∀ (ent:List (Option (Nat×AV))) (n:Nat),(∀ (j:Nat) a,ent[j]?≠some (some (s,a)))->lk (dr L n ent) s=none
 | [],_,_=>rfl
 | none::es,n,h=>kO L s es (n+1) (fun j a=>by simpa using h (j+1) a)
 | some (d,a)::es,n,h=>by
  have hne:s≠d:=by
   rintro rfl;exact h 0 a (by simp)
  simp only [dr,lk,dW hne,PF];exact kO L s es (n+1) (fun j a=>by simpa using h (j+1) a)
theorem uF (L:Nat->Bool):∀ (ent:List (Option (Nat×AV))) (n j s:Nat) (a:AV),vK ent->ent[j]?=some (some (s,a))->lk (dr L n ent) s=some (bif L (n+j) then a else .any)
 | [],_,_,_,_,_,h=>by simp at h
 | none::es,n,j,s,a,ho,h=>by
  cases j with
  | zero=>simp at h
  | succ j =>
   have ho':vK es:=fun i k s a b h1 h2=>by
    have:=ho (i+1) (k+1) s a b (by simpa using h1) (by simpa using h2);omega
   have:=uF L es (n+1) j s a ho' (by simpa using h);simp only [dr];rw [this,show n+1+j=n+(j+1) by omega]
 | some (d,b)::es,n,j,s,a,ho,h=>by
  cases j with
  | zero =>
   simp only [List.getElem?_cons_zero,Ps,Pv] at h;obtain ⟨rfl,rfl⟩:=h;simp only [dr,lk,Nat.beq_refl,PZ,QU]
  | succ j =>
   have hne:s≠d:=by
    rintro rfl;have:=ho 0 (j+1) s b a (by simp) h;omega
   have ho':vK es:=fun i k s a b h1 h2=>by
    have:=ho (i+1) (k+1) s a b (by simpa using h1) (by simpa using h2);omega
   have:=uF L es (n+1) j s a ho' (by simpa using h);simp only [dr,lk,dW hne,PF];rw [this,show n+1+j=n+(j+1) by omega]
theorem sS {ent:List (Option (Nat×AV))} (ho:vK ent) (L:Nat->Bool) (S:St) {j s:Nat} {a:AV} (h:ent[j]?=some (some (s,a))):(gK S (dr L 0 ent)).env s=bif L j then a else .any:=by
 have:=uF L ent 0 j s a ho h;rw [Qg] at this;simp only [gK,this]
theorem dE {ent:List (Option (Nat×AV))} (L:Nat->Bool) (S:St) {s:Nat} (h:∀ (j:Nat) a,ent[j]?≠some (some (s,a))):(gK S (dr L 0 ent)).env s=S.env s:=by
 simp only [gK,kO L s ent 0 h]
theorem Li:∀ (l:List Nat) (s:Nat),lk (l.map fun d=>(d,AV.any)) s=if l.contains s then some .any else none
 | [],s=>rfl
 | d::l,s=>by
  simp only [Qf,lk];by_cases h:s=d
  ·subst h; simp
  ·rw [dW h,PF,Li l s];simp [h]
theorem sW (S:St) (s:Nat):(Ex ss ops S).env s=if (tg ss ops).contains s then .any else S.clean.env s:=by
 unfold Ex;simp only [gK,Li];by_cases h:(tg ss ops).contains s=true
 ·rw [if_pos h,if_pos h]
 ·rw [if_neg h,if_neg h]
theorem J7 (S:St) (s:Nat):((Ex ss ops S).env s).noGd=true:=by
 rw [sW];split
 ·rfl
 ·exact cm _ _
theorem Hf {i j:Nat} (h:i<=j):ec ss ops i<=ec ss ops j:=by
 unfold ec;have:(ops.toList.take i)=(ops.toList.take j).take i:=by rw [QQ,QP h]
 rw [this];exact ((List.take_sublist i (ops.toList.take j)).filter _).length_le
theorem lT {i:Nat} {o:Oper} (ho:ops[i]?=some o):ec ss ops (i+1)=ec ss ops i+(if ge ss o=true then 1 else 0):=by
 have his:i<ops.toList.length:=by
  rcases PU i ops.toList.length with h | h
  ·exact h
  ·rw [Array.getElem?_eq_none (by simpa using h)] at ho; cases ho
 have ho':ops.toList[i]=o:=by
  have:ops.toList[i]?=some o:=by simpa using ho
  rw [List.getElem?_eq_getElem his] at this;injection this
 unfold ec;rw [Qh his,Q6,PC,ho'];by_cases h:ge ss o=true
 ·rw [if_pos h,Qj h]; rfl
 ·rw [if_neg h,Qy h]; rfl
theorem jL:∀ (os:List Oper) (i:Nat) (S:St) (ent:List (Option (Nat×AV))) (ps:List Prop) (Ss:List St) (ent':List (Option (Nat×AV))),iS P ss ops os i S ent=some (ps,Ss,ent')->os=ops.toList.drop i->i<=ops.size->ent.length=i ->
  ent'.length=ops.size/\ent'.take i=ent/\Ss[0]?=some S/\∀ (j:Nat) o,i<=j->ops[j]?=some o->∃ Sj,Ss[ec ss ops j - ec ss ops i]?=some Sj /\
   (ge ss o=true->ent'[j]?=some none/\∃ qs T,Mw P ss (gK Sj (dr (dQ ops j) 0 (ent'.take j))) o=some (qs,T)/\(∀ q∈qs,q∈ps)/\Ss[ec ss ops j+1 - ec ss ops i]?=some (Ex ss ops T)) /\
   (ge ss o=false->∃ qs r d,ent'[j]?=some (some (d,r.opn []))/\o.dst=some d/\FV P ss (gK Sj (dr (dQ ops j) 0 (ent'.take j))) [] o=some (qs,r)/\∀ q∈qs,q∈ps)
 | [],i,S,ent,ps,Ss,ent',h,hos,hi,hl=>by
  simp only [iS,Ps,Pv] at h;obtain ⟨rfl,rfl,rfl⟩:=h
  have:ops.size<=i:=by
   have:=congrArg List.length hos;simp at this;omega
  refine ⟨by omega,by rw [PJ (by omega)],rfl,fun j o hj ho=>?_⟩;rw [Array.getElem?_eq_none (by omega)] at ho;cases ho
 | o::os,i,S,ent,ps,Ss,ent',h,hos,hi,hl=>by
  have his:i<ops.size:=by
   rcases PU i ops.size with h | h
   ·exact h
   ·rw [Rc (by simpa using h)] at hos; cases hos
  have hdr:ops.toList.drop i=ops.toList[i]'(by simpa using his)::ops.toList.drop (i+1):=QN (by simpa using his);rw [hdr] at hos;injection hos with ho hos
  have ho:ops[i]?=some o:=by rw [ho]; simp [his]
  unfold iS at h
  have up:∀ (Si:St) (x:Option (Nat×AV)) (qs:List Prop) (Ss1:List St),iS P ss ops os (i+1) Si (ent++[x])=some (qs,Ss1,ent')->ent'.length=ops.size/\ent'.take i=ent/\ent'[i]?=some x:=by
   intro Si x qs Ss1 hr;obtain ⟨k1,k2,_⟩:=jL os (i+1) Si (ent++[x]) qs Ss1 ent' hr hos (by omega) (by simp [hl]);refine ⟨k1,?_,?_⟩
   ·have:=congrArg (List.take i) k2;rw [QQ,QP (by omega),PQ (by omega),PJ (l:=ent) (by omega)] at this;exact this
   ·have:=congrArg (fun l=>l[i]?) k2;simp only [List.getElem?_take] at this;rw [if_pos (by omega),List.getElem?_append_right (by omega)] at this;simpa [hl] using this
  split at h
  ·rename_i hu;split at h <;> try cases h
   rename_i ps1 T hev;split at h <;> simp only [Ps,Pv,reduceCtorEq] at h;rename_i qs Ss1 ent1 hr;obtain ⟨rfl,rfl,rfl⟩:=h;obtain ⟨k1,k2,k3⟩:=up _ _ _ _ hr;obtain ⟨_,_,g3,g4⟩:=jL os (i+1) _ (ent++[none]) qs Ss1 ent1 hr hos (by omega) (by simp [hl]);have he1:ec ss ops (i+1)=ec ss ops i+1:=by rw [lT ho,if_pos hu]
   refine ⟨k1,k2,rfl,fun j oj hj hoj=>?_⟩;by_cases hji:j=i
   ·subst hji;rw [ho] at hoj;injection hoj with hoj
    subst hoj;refine ⟨S,by rw [RR]; rfl,fun _=>⟨k3,ps1,T,by rw [k2]; exact hev,fun q hq=>PE _ hq,?_⟩,fun h=>by rw [hu] at h; cases h⟩;rw [show ec ss ops j+1 - ec ss ops j=0+1 by omega,List.getElem?_cons_succ];exact g3
   ·have hle:=Hf (ss:=ss) (ops:=ops) (show i+1<=j by omega);obtain ⟨Sj,q1,q2,q3⟩:=g4 j oj (by omega) hoj;refine ⟨Sj,?_,fun hu'=>?_,fun hu'=>?_⟩
    ·rw [show ec ss ops j - ec ss ops i=(ec ss ops j - ec ss ops (i+1))+1 by omega,List.getElem?_cons_succ];exact q1
    ·obtain ⟨a1,qs',T',a2,a3,a4⟩:=q2 hu';refine ⟨a1,qs',T',a2,fun q hq=>PK _ (a3 q hq),?_⟩;rw [show ec ss ops j+1 - ec ss ops i=(ec ss ops j+1 - ec ss ops (i+1))+1 by omega,List.getElem?_cons_succ];exact a4
    ·obtain ⟨qs',r,d,a1,a2,a3,a4⟩:=q3 hu';exact ⟨qs',r,d,a1,a2,a3,fun q hq=>PK _ (a4 q hq)⟩
  ·rename_i hu;have hu:ge ss o=false:=by simpa using hu
   split at h <;> try cases h
   rename_i ps1 r d hev hd;split at h <;> simp only [Ps,Pv,reduceCtorEq] at h;rename_i qs Ss1 ent1 hr;obtain ⟨rfl,rfl,rfl⟩:=h;obtain ⟨k1,k2,k3⟩:=up _ _ _ _ hr;obtain ⟨_,_,g3,g4⟩:=jL os (i+1) _ (ent++[some (d,r.opn [])]) qs Ss1 ent1 hr hos (by omega) (by simp [hl]);have he1:ec ss ops (i+1)=ec ss ops i:=by rw [lT ho,if_neg (by rw [hu]; simp)]; rfl
   refine ⟨k1,k2,g3,fun j oj hj hoj=>?_⟩;by_cases hji:j=i
   ·subst hji;rw [ho] at hoj;injection hoj with hoj
    subst hoj;refine ⟨S,by rw [RR]; exact g3,fun h=>(by rw [hu] at h; cases h),fun _=>⟨ps1,r,d,k3,hd,by rw [k2]; exact hev,fun q hq=>PE _ hq⟩⟩
   ·obtain ⟨Sj,q1,q2,q3⟩:=g4 j oj (by omega) hoj;rw [he1] at q1 q2;refine ⟨Sj,q1,fun hu'=>?_,fun hu'=>?_⟩
    ·obtain ⟨a1,qs',T',a2,a3,a4⟩:=q2 hu';exact ⟨a1,qs',T',a2,fun q hq=>PK _ (a3 q hq),a4⟩
    ·obtain ⟨qs',r',d',a1,a2,a3,a4⟩:=q3 hu';exact ⟨qs',r',d',a1,a2,a3,fun q hq=>PK _ (a4 q hq)⟩
theorem rl {Ss:List St} {ent:List (Option (Nat×AV))} {j:Nat} {o:Oper} {r:AV}:∀ (ms:List Nat) (ps:List Prop),Jv P ss ops Ss ent j o r ms=some ps->(∀ q∈ps,q)->∀ m∈ms,m≠ec ss ops j->GR ss ops j m=true ->
  ∃ S qs r',Ss[m]?=some S/\FV P ss (gK S (dr (dQ ops j) 0 ent)) [] o=some (qs,r')/\r'.opn []=r/\∀ q∈qs,q
 | [],_,_,_,m,hm,_,_=>by cases hm
 | m0::ms,ps,h,hp,m,hm,hne,hpm=>by
  unfold Jv at h;split at h
  ·rename_i hc;rcases PD.1 hm with rfl | hm
   ·exfalso;rw [dW hne,hpm] at hc;simp at hc
   ·exact rl ms ps h hp m hm hne hpm
  ·split at h <;> try cases h
   rename_i S hS;split at h <;> try cases h
   rename_i qs r' hev;split at h <;> simp only [Ps,reduceCtorEq] at h;rename_i es rest he hrest;subst h;rcases PD.1 hm with rfl | hm
   ·exact ⟨S,qs,r',hS,hev,FW _ _ es he (fun q hq=>hp q (PE _ (PK _ hq))),fun q hq=>hp q (PE _ (PE _ hq))⟩
   ·exact rl ms rest hrest (fun q hq=>hp q (PK _ hq)) m hm hne hpm
theorem rm {Ss:List St} {ent:List (Option (Nat×AV))}:∀ (os:List Oper) (i:Nat) (ps:List Prop),Jw P ss ops Ss ent os i=some ps->(∀ q∈ps,q)->∀ (j:Nat) o d r,os[j]?=some o->ent[i+j]?=some (some (d,r)) ->
  ∃ qs,Jv P ss ops Ss ent (i+j) o r (List.range Ss.length)=some qs/\∀ q∈qs,q
 | [],_,_,_,_,j,o,d,r,ho,_=>by simp at ho
 | o0::os,i,ps,h,hp,j,o,d,r,ho,he=>by
  unfold Jw at h;cases j with
  | zero =>
   simp only [List.getElem?_cons_zero,Ps] at ho;subst ho;rw [QU] at he |-;rw [he] at h;simp only at h;split at h <;> simp only [Ps,reduceCtorEq] at h;rename_i p q h1 h2;subst h;exact ⟨p,h1,fun x hx=>hp x (PE _ hx)⟩
  | succ j =>
   have ho':os[j]?=some o:=by simpa using ho
   have he':ent[i+1+j]?=some (some (d,r)):=by rw [show i+1+j=i+(j+1) by omega]; exact he
   rw [show i+(j+1)=i+1+j by omega];split at h
   ·split at h <;> simp only [Ps,reduceCtorEq] at h;rename_i p q h1 h2;subst h;exact rm os (i+1) q h2 (fun x hx=>hp x (PK _ hx)) j o d r ho' he'
   ·exact rm os (i+1) ps h hp j o d r ho' he'
structure Graph (P:Program) (ss:Specs) (ops:Array Oper) (n:Nat) (Ss:List St) (ent:List (Option (Nat×AV))):Prop where
 size:ent.length=ops.size
 len:Ss.length=ec ss ops ops.size+1
 sn:∀ (m:Nat) S,Ss[m]?=some S->S.n=n
 noGd:∀ (m:Nat) S,Ss[m]?=some S->∀ s,(S.env s).noGd=true
 free:∀ (m:Nat) S,Ss[m]?=some S->∀ (j d:Nat) (r:AV),ent[j]?=some (some (d,r))->S.env d=.any
 once:vK ent
 dist:∀ (i j:Nat) (oi oj:Oper) (d:Nat),ops[i]?=some oi->ops[j]?=some oj->oi.dst=some d->oj.dst=some d->i=j
 ok:∀ (i:Nat) o,ops[i]?=some o->xU ss ops ops.size i o=true/\o.guard=none/\∀ d,o.dst=some d->d<n/\d<1000000
 value:∀ (j:Nat) o,ops[j]?=some o->ge ss o=false->∃ d r,ent[j]?=some (some (d,r))/\r.noGd=true/\o.dst=some d/\∀ m S,Ss[m]?=some S->GR ss ops j m=true->∃ qs r',FV P ss (gK S (dr (dQ ops j) 0 ent)) [] o=some (qs,r')/\r'.opn []=r/\∀ q∈qs,q
 turn:∀ (j:Nat) o,ops[j]?=some o->ge ss o=true->ent[j]?=some none/\∃ S qs T,Ss[ec ss ops j]?=some S/\Mw P ss (gK S (dr (dQ ops j) 0 ent)) o=some (qs,T)/\(∀ q∈qs,q)/\Ss[ec ss ops j+1]?=some (Ex ss ops T)
 order:∀ (i e:Nat) oi oe,ops[i]?=some oi->ops[e]?=some oe->ge ss oi=true->ge ss oe=true->e<i->dQ ops i e=true
 fixed:∀ (i:Nat) oi,ops[i]?=some oi->ge ss oi=true->∀ (j d:Nat) (r:AV),ent[j]?=some (some (d,r))->dQ ops j i=false->(∀ k,FE oi k=true->r.scrub (fun y=>Nat.beq y k)=r)/\r.noGd=true
theorem Graph.edge {n:Nat} {Ss:List St} {ent:List (Option (Nat×AV))} (G:Graph P ss ops n Ss ent):∀ (i:Nat) o,ops[i]?=some o->∀ e∈bq o,e<i:=fun i o ho e he=>(lE (G.ok i o ho).1).1 e he
theorem Graph.look {n:Nat} {Ss:List St} {ent:List (Option (Nat×AV))} (G:Graph P ss ops n Ss ent) (S:St) {L L':Nat->Bool} {i:Nat} {o:Oper} (ho:ops[i]?=some o) (hL:∀ e∈bq o,L e=true) (hL':∀ e∈bq o,L' e=true) :
  ∀ x∈o.op.operands,(gK S (dr L 0 ent)).val x=(gK S (dr L' 0 ent)).val x:=by
 intro x hx;obtain ⟨_,h2⟩:=lE (G.ok i o ho).1;cases x with
 | tmp t =>
  simp only [St.val];by_cases hk:∃ (j:Nat) (a:AV),ent[j]?=some (some ((t:Nat),a))
  ·obtain ⟨j,a,hj⟩:=hk
   have hjs:j<ops.size:=by
    rcases PU j ent.length with h | h
    ·rw [<- G.size]; exact h
    ·rw [List.getElem?_eq_none h] at hj; cases hj
   have hoj:ops[j]?=some ops[j]:=by simp [hjs]
   have hu:ge ss ops[j]=false:=by
    cases hu:ge ss ops[j]
    ·rfl
    ·have:=(G.turn j _ hoj hu).1;rw [hj] at this;cases this
   have hd:ops[j].dst=some t:=by
    obtain ⟨d,r,k1,_,k2,_⟩:=G.value j _ hoj hu;rw [hj] at k1;injection k1 with k1
    injection k1 with k1
    injection k1 with k1 _
    subst k1;exact k2
   have hje:=h2 t hx j _ hjs hoj hu hd;rw [sS G.once L S hj,sS G.once L' S hj,hL j hje,hL' j hje]
  ·have hk':∀ (j:Nat) a,ent[j]?≠some (some (t,a)):=fun j a e=>hk ⟨j,a,e⟩
   rw [dE L S hk',dE L' S hk']
 | const v=>rfl
 | func f=>rfl
 | global g=>rfl
theorem GT (f:Nat->Nat) (j:Nat):∀ (es:List Nat) (m:Nat),(j∈es\/m.testBit j=true)->(es.foldl (fun m e=>m ||| (1 <<< e) ||| f e) m).testBit j=true
 | [],m,h=>by
  rcases h with h | h
  ·cases h
  ·exact h
 | e::es,m,h=>by
  refine GT f j es _ ?_;rcases h with h | h
  ·rcases PD.1 h with rfl | h
   ·right;simp [Nat.testBit_or,Nat.one_shiftLeft]
   ·exact .inl h
  ·right;simp [Nat.testBit_or,h]
theorem D0 {i:Nat} {o:Oper} (ho:ops[i]?=some o):∀ e∈bq o,dQ ops i e=true:=by
 intro e he;obtain ⟨new,h1,h2,h3⟩:=nV ops.toList [];have h4:=h3 i o (by simpa using ho);simp only [P0] at h4 h1;unfold dQ eU;rw [h1,List.getD_eq_getElem?_getD,h4];exact GT _ e _ _ (.inl he)
theorem Od {x:AV} (h:x.noGd=true):x.opn []=x:=by cases x <;> first | (cases h; done) | rfl
theorem D1 {n:Nat} {Ss:List St} {ent:List (Option (Nat×AV))} (_:Graph P ss ops n Ss ent) {i:Nat} {o:Oper} (ho:ops[i]?=some o):∀ e∈bq o,dQ ops i e=true:=by
 intro e he;exact D0 ho e he
theorem OV (hss:ss.okA P M w0) {hd:Array Oper} {n:Nat} {Ss:List St} {ent:List (Option (Nat×AV))} (G:Graph P ss hd n Ss ent) (hks:hd.size<=ops.size) (hhd:∀ i,i<hd.size->ops[i]?=hd[i]?) (hedge:∀ (i:Nat) o,ops[i]?=some o->∀ e∈bq o,e<i)
  (htail:∀ (i:Nat) o,hd.size<=i->ops[i]?=some o->∀ j,j<i->((eU ops).getD i 0).testBit j=true) {ds:List Deferred} {Sr:St} (hSr:Ss[ec ss hd hd.size]?=some Sr)
  (hrest:∀ a w,Sat M p0 w0 (gK Sr (dr (fun _=>true) 0 ent)) a.tmps w->a.defers=ds->wpList P ops Q (ops.toList.drop hd.size) a w) :
  ∀ (fuel:Nat) (listed:Array Bool) (a:Act) (w:World) (m:Nat) (S:St),listed.size=ops.size->AX listed ops.size<=fuel->Gl ops (fun j=>listed.getD j true)->(∀ i o,hd[i]?=some o->ge ss o=true->listed.getD i true=decide (ec ss hd i<m))->m<=ec ss hd hd.size->Ss[m]?=some S->(∀ j,hd.size<=j->j<ops.size->listed.getD j true=false) ->
   Sat M p0 w0 (gK S (dr (fun j=>listed.getD j true) 0 ent)) a.tmps w->a.defers=ds->wpAny P .any ops Q fuel listed a w:=by
 have sizeOf:∀ (i:Nat) o,hd[i]?=some o->i<hd.size:=by
  intro i o ho;rcases PU i hd.size with h | h
  ·exact h
  ·rw [Array.getElem?_eq_none h] at ho; cases ho
 have liftO:∀ (i:Nat) o,hd[i]?=some o->ops[i]?=some o:=fun i o ho=>by rw [hhd i (sizeOf i o ho)]; exact ho
 have ofWait:∀ (listed:Array Bool),Gl ops (fun j=>listed.getD j true)->∀ (i:Nat) o,hd[i]?=some o->(∀ e∈bq o,listed.getD e true=true)->∀ j,dQ hd i j=true->listed.getD j true=true:=by
  intro listed hD i o ho he j hj;have hin:=kV (ops:=hd) (L:=fun j=>j<hd.size/\listed.getD j true=true) (fun i oi hi hoi e hee=>⟨by have:=G.edge i oi hoi e hee; omega,hD i oi hi.2 (liftO i oi hoi) e hee⟩) (fun i hi=>hi.1) i o ho (fun e hee=>⟨by have:=G.edge i o ho e hee; have:=sizeOf i o ho; omega,he e hee⟩) j hj;exact hin.2
 have fin:∀ (fuel:Nat) (listed:Array Bool) (a:Act) (w:World) (m:Nat) (S:St),listed.size=ops.size->AX listed ops.size<=fuel->(∀ j,hd.size<=j->j<ops.size->listed.getD j true=false)->(∀ j,j<hd.size->listed.getD j true=true)->(∀ i o,hd[i]?=some o->ge ss o=true->listed.getD i true=decide (ec ss hd i<m))->m<=ec ss hd hd.size->Ss[m]?=some S ->
   Sat M p0 w0 (gK S (dr (fun j=>listed.getD j true) 0 ent)) a.tmps w->a.defers=ds->wpAny P .any ops Q fuel listed a w:=by
  intro fuel listed a w m S hsz hc hT hall hE hm hSm hS hds
  have hmr:m=ec ss hd hd.size:=by
   rcases PU m (ec ss hd hd.size) with hlt | hge
   ·exfalso
    have:∀ k,k<=hd.size->ec ss hd k<=m:=by
     intro k
     induction k with
     | zero=>intro _; simp [ec]
     | succ k ih =>
      intro hk;have ho:hd[k]?=some hd[k]:=by simp [show k<hd.size by omega]
      have h1:=ih (by omega);rw [lT ho];split
      ·rename_i hu;have h2:=hE k _ ho hu;rw [hall k (by omega)] at h2;have:=Pt h2.symm;omega
      ·omega
    have:=this hd.size (PP _);omega
   ·omega
  subst hmr;rw [hSr] at hSm;injection hSm with hSm
  subst hSm;have hcg:=F6 (listed:=listed) (k:=hd.size) ops.size hT;refine HV hedge htail fuel hd.size listed a w (by omega) (PP _) hsz (fun j hj=>?_) (hrest a w (hS.congrE ?_ rfl rfl) hds)
  ·by_cases hjk:j<hd.size
   ·rw [hall j hjk,QA hjk]
   ·rw [hT j (by omega) hj,QI hjk]
  funext s;by_cases hk:∃ (j:Nat) (b:AV),ent[j]?=some (some (s,b))
  ·obtain ⟨j,b,hj⟩:=hk
   have hjs:j<hd.size:=by
    rcases PU j ent.length with h | h
    ·rw [<- G.size]; exact h
    ·rw [List.getElem?_eq_none h] at hj; cases hj
   rw [sS G.once _ _ hj,sS G.once _ _ hj,hall j hjs]
  ·have hk':∀ (j:Nat) a,ent[j]?≠some (some (s,a)):=fun j a e=>hk ⟨j,a,e⟩
   rw [dE _ _ hk',dE _ _ hk']
 intro fuel
 induction fuel with
 | zero =>
  intro listed a w m S hsz hc hD hE hm hSm hT hS hds;have hall:=vz (listed:=listed) ops.size (by omega);exact fin 0 listed a w m S hsz hc hT (fun j hj=>hall j (by omega)) hE hm hSm hS hds
 | succ fuel ih =>
  intro listed a w m S hsz hc hD hE hm hSm hT hS hds;by_cases hopen:∃ j,j<hd.size/\listed.getD j true=false;rotate_left
  ·refine fin (fuel+1) listed a w m S hsz hc hT (fun j hj=>?_) hE hm hSm hS hds;cases hb:listed.getD j true
   ·exact absurd ⟨j,hj,hb⟩ hopen
   ·rfl
  obtain ⟨i0,hi0,hi0l,hi0a⟩:=oA hd.size hopen;refine ⟨fun h0=>?_,fun i hi=>?_⟩
  ·exfalso;have ho:ops[i0]?=some ops[i0]:=by simp [show i0<ops.size by omega]
   have:i0∈Region.ready .any ops listed:=dY.2 ⟨by omega,hi0l,_,ho,fun e he=>by
    have:=hedge i0 _ ho e he;rw [ju (by omega)];exact hi0a e this⟩
   rw [h0] at this;cases this
  ·obtain ⟨h1,h2,o,hoo,h3⟩:=dY.1 hi
   have hik:i<hd.size:=by
    rcases PU i hd.size with h | h
    ·exact h
    ·exfalso;have hw:=htail i o h hoo i0 (by omega)
     have he3:∀ e∈bq o,listed.getD e true=true:=fun e he=>by
      have he':=h3 e he;have hes:e<listed.size:=by have:=hedge i o hoo e he; omega
      rw [<- ju hes];exact he'
     have hin:=kV (ops:=ops) (L:=fun j=>j<ops.size/\listed.getD j true=true) (fun i oi hi hoi e hee=>⟨by have:=hedge i oi hoi e hee; omega,hD i oi hi.2 hoi e hee⟩) (fun i hi=>hi.1) i o hoo (fun e hee=>⟨by have:=hedge i o hoo e hee; omega,he3 e hee⟩) i0 hw;rw [hi0l] at hin;exact absurd hin.2 (by simp)
   have ho:hd[i]?=some o:=by rw [<- hhd i hik]; exact hoo
   have h3':∀ e∈bq o,listed.getD e true=true:=fun e he=>by
    have he':=h3 e he
    have hes:e<listed.size:=by
     rcases PU e listed.size with h | h
     ·exact h
     ·simp [h] at he'
    rw [<- ju hes];exact he'
   have hsz':(listed.setIfInBounds i true).size=ops.size:=by simpa using hsz
   have hT':∀ j,hd.size<=j->j<ops.size->(listed.setIfInBounds i true).getD j true=false:=fun j hj hjs=>by
    rw [jT,hT j hj hjs,dW (by omega)]; rfl
   have hc':AX (listed.setIfInBounds i true) ops.size<=fuel:=by
    have:=(AF h2 ops.size).2 h1;omega
   have hLs:∀ j,(listed.setIfInBounds i true).getD j true=(listed.getD j true||Nat.beq j i):=fun j=>jT
   have hD':Gl ops (fun j=>(listed.setIfInBounds i true).getD j true):=by
    intro j oj hj hoj e he;simp only [hLs,Qq] at hj |-;rcases hj with hj | hj
    ·exact .inl (hD j oj hj hoj e he)
    ·have:=Pw hj;subst this;rw [hoo] at hoj;injection hoj with hoj
     subst hoj;exact .inl (h3' e he)
   obtain ⟨_,hguard,hdlt⟩:=G.ok i o ho;have hwant:Region.wanted o (yielded ops a.tmps)=true:=by simp [Region.wanted,hguard]
   have hwe:=D1 G ho;cases hu:ge ss o
   ·
    obtain ⟨d,r,hent,hrg,hdst,hval⟩:=G.value i o ho hu
    have hperm:GR ss hd i m=true:=by
     refine PA.2 fun e he=>?_
     have hes:e<hd.size:=by simpa using he
     have hoe:hd[e]?=some hd[e]:=by simp [hes]
     rw [hoe];simp only;cases hue:ge ss hd[e]
     ·rfl
     ·simp only [RA,Re];have hle:=hE e _ hoe hue;split
      ·rename_i hme;rw [QI (by omega)] at hle;cases hw:dQ hd i e
       ·rfl
       ·have:=ofWait listed hD i o ho h3' e hw;rw [hle] at this;cases this
      ·rename_i hme;rw [QA (by omega)] at hle;cases hw:dQ hd e i
       ·rfl
       ·have:=ofWait listed hD e _ hoe (fun e' he'=>hD e _ hle (liftO e _ hoe) e' he') i hw;rw [h2] at this;cases this
    obtain ⟨qs,r',hev,hr,hq⟩:=hval m S hSm hperm
    have hl:FV P ss (gK S (dr (fun j=>listed.getD j true) 0 ent)) [] o=some (qs,r'):=by
     rw [<- hev];exact rh rfl (G.look S ho h3' hwe)
    obtain ⟨p,β,hB⟩:=hS;unfold wpOp;rw [hoo];simp only;rw [if_pos hwant];refine .inl (jE hB hss (aN _) hl hq _ Q (fun v w' p' hS' hle hrv=>?_));rw [hdst];have hn:=G.sn m S hSm;have hset:=hS'.set (d:=d) (a:=r) (x:=v) (Nat.lt_of_lt_of_eq (hdlt d hdst).1 hn.symm) (by rw [<- hr]; exact fe (cm _ _) (cZ (aN _) _ _ hrv));refine ih _ _ w' m S hsz' hc' hD' (fun j oj hoj huj=>?_) hm hSm hT' (Sat.congrE ⟨p',β,hset⟩ ?_ rfl rfl) hds
    ·rw [hLs]
     have hji:j≠i:=by
      rintro rfl;rw [ho] at hoj;injection hoj with hoj
      subst hoj;rw [hu] at huj;cases huj
     rw [dW hji,Q0];exact hE j oj hoj huj
    ·funext s;by_cases hs:s=d
     ·subst hs;rw [sS G.once _ _ hent,hLs];simp [St.set]
     ·simp only [St.set,dW hs,PF];by_cases hk:∃ (j:Nat) (b:AV),ent[j]?=some (some (s,b))
      ·obtain ⟨j,b,hj⟩:=hk
       have hji:j≠i:=by
        rintro rfl;rw [hent] at hj;injection hj with hj
        injection hj with hj
        injection hj with hj _
        exact hs hj.symm
       have hbg:b.noGd=true:=by
        have hjs:j<hd.size:=by
         rcases PU j ent.length with h | h
         ·rw [<- G.size]; exact h
         ·rw [List.getElem?_eq_none h] at hj; cases hj
        have hoj:hd[j]?=some hd[j]:=by simp [hjs]
        cases huj:ge ss hd[j]
        ·obtain ⟨d',r',k1,k2,_⟩:=G.value j _ hoj huj;rw [hj] at k1;injection k1 with k1
         injection k1 with k1
         injection k1 with _ k1
         rw [k1]; exact k2
        ·have:=(G.turn j _ hoj huj).1;rw [hj] at this;cases this
       rw [sS G.once _ _ hj,sS G.once _ _ hj,hLs,dW hji,Q0];cases listed.getD j true
       ·rfl
       ·exact (gV hbg).symm
      ·have hk':∀ (j:Nat) a,ent[j]?≠some (some (s,a)):=fun j a e=>hk ⟨j,a,e⟩
       rw [dE _ _ hk',dE _ _ hk'];exact (gV (G.noGd m S hSm s)).symm
   ·
    obtain ⟨hent,Si,qs,T,hSi,hev,hq,hnext⟩:=G.turn i o ho hu
    have him:ec ss hd i=m:=by
     have h4:=hE i o ho hu;rw [h2] at h4;have h5:=Pu h4.symm;rcases PU m (ec ss hd i) with hlt | hge
     ·exfalso
      have:∀ k,k<=i->m<ec ss hd k->∃ e oe,e<k/\hd[e]?=some oe/\ge ss oe=true/\ec ss hd e=m:=by
       intro k
       induction k with
       | zero=>intro _ h; simp [ec] at h
       | succ k ih =>
        intro hk h;have hok:hd[k]?=some hd[k]:=by simp [show k<hd.size by omega]
        rw [lT hok] at h;by_cases hm2:m<ec ss hd k
        ·obtain ⟨e,oe,q1,q2⟩:=ih (by omega) hm2;exact ⟨e,oe,by omega,q2⟩
        ·split at h
         ·rename_i hu';exact ⟨k,_,by omega,hok,hu',by omega⟩
         ·omega
      obtain ⟨e,oe,q1,q2,q3,q4⟩:=this i (PP _) hlt;have hw:=G.order i e o oe ho q2 hu q3 q1;have hle:=ofWait listed hD i o ho h3' e hw;rw [hE e oe q2 q3,q4] at hle;simp at hle
     ·omega
    rw [him] at hSi hnext;rw [hSm] at hSi;injection hSi with hSi
    subst hSi;obtain ⟨T',hev',hov⟩:=LM (P:=P) (ss:=ss) (B':=gK S (dr (fun j=>listed.getD j true) 0 ent)) hu (fun d hd=>(hdlt d hd).2) hev rfl rfl rfl (G.look S ho h3' hwe);obtain ⟨p,β,hB⟩:=hS;unfold wpOp;rw [hoo];simp only;rw [if_pos hwant]
    have hmlt:m+1<=ec ss hd hd.size:=by
     have h6:=Hf (ss:=ss) (ops:=hd) (show i+1<=hd.size by omega);rw [lT ho,if_pos hu,him] at h6;exact h6
    refine .inl (re hB hss hev' hq _ Q (fun a' w' hS' hd'=>?_));refine ih _ a' w' (m+1) (Ex ss hd T) hsz' hc' hD' (fun j oj hoj huj=>?_) hmlt hnext hT' ((em hS').weak (fun s=>?_) hov.lh.symm hov.n.symm) (hd'.trans hds)
    ·rw [hLs,hE j oj hoj huj];by_cases hji:j=i
     ·subst hji;rw [him];simp
     ·rw [dW hji,Q0];apply RZ.2
      have hne:ec ss hd j≠m:=by
       intro e;rcases PU j i with hlt | hge
       ·have h6:=Hf (ss:=ss) (ops:=hd) (show j+1<=i by omega);rw [lT hoj,if_pos huj] at h6;omega
       ·have h6:=Hf (ss:=ss) (ops:=hd) (show i+1<=j by omega);rw [lT ho,if_pos hu] at h6;omega
      omega
    ·by_cases hk:∃ (j:Nat) (b:AV),ent[j]?=some (some (s,b))
     ·obtain ⟨j,b,hj⟩:=hk
      have hji:j≠i:=by
       rintro rfl;rw [hent] at hj;cases hj
      rw [sS G.once _ _ hj,hLs,dW hji,Q0];cases hlj:listed.getD j true
      ·exact .inr rfl
      ·left
       have hnw:dQ hd j i=false:=by
        cases hw:dQ hd j i
        ·rfl
        ·exfalso
         have hjs:j<hd.size:=by
          rcases PU j ent.length with h | h
          ·rw [<- G.size]; exact h
          ·rw [List.getElem?_eq_none h] at hj; cases hj
         have hoj:hd[j]?=some hd[j]:=by simp [hjs]
         have:=ofWait listed hD j _ hoj (fun e he=>hD j _ hlj (liftO j _ hoj) e he) i hw;rw [h2] at this;cases this
       obtain ⟨f1,f2⟩:=G.fixed i o ho hu j s b hj hnw;have henv:(gK S (dr (fun j=>listed.getD j true) 0 ent)).env s=b:=by rw [sS G.once _ _ hj,hlj]; rfl
       have hsd:¬ o.dst=some s:=by
        intro hds1
        have hjs:j<hd.size:=by
         rcases PU j ent.length with h | h
         ·rw [<- G.size]; exact h
         ·rw [List.getElem?_eq_none h] at hj; cases hj
        have hoj:hd[j]?=some hd[j]:=by simp [hjs]
        cases huj:ge ss hd[j]
        ·obtain ⟨d',r',k1,_,k2,_⟩:=G.value j _ hoj huj;rw [hj] at k1;injection k1 with k1
         injection k1 with k1
         injection k1 with k1 _
         subst k1;exact hji (G.dist j i _ o s hoj ho k2 hds1)
        ·have:=(G.turn j _ hoj huj).1;rw [hj] at this;cases this
       have:=hov.keep s hsd (by rw [henv]; exact f1) (by rw [henv]; exact f2);show b=(T'.env s).opn [];rw [this,henv];exact (Od f2).symm
     ·have hk':∀ (j:Nat) a,ent[j]?≠some (some (s,a)):=fun j a e=>hk ⟨j,a,e⟩
      rw [dE _ _ hk',sW];split
      ·exact .inr rfl
      ·left;show (T.env s).opn []=(T'.env s).opn [];rw [hov.env s (by rw [dE _ _ hk',dE _ _ hk'])]
theorem qE:∀ (os:List Oper) (i:Nat) (S:St) (ent:List (Option (Nat×AV))) (ps:List Prop) (Ss:List St) (ent':List (Option (Nat×AV))),iS P ss ops os i S ent=some (ps,Ss,ent')->∀ S'∈Ss,S'=S\/∃ T,S'=Ex ss ops T
 | [],i,S,ent,ps,Ss,ent',h,S',hS'=>by
  simp only [iS,Ps,Pv] at h;obtain ⟨_,rfl,_⟩:=h;exact .inl (PB.1 hS')
 | o::os,i,S,ent,ps,Ss,ent',h,S',hS'=>by
  unfold iS at h;split at h
  ·split at h <;> try cases h
   rename_i ps1 T hev;split at h <;> simp only [Ps,Pv,reduceCtorEq] at h;rename_i qs Ss1 ent1 hr;obtain ⟨rfl,rfl,rfl⟩:=h;rcases PD.1 hS' with rfl | hS'
   ·exact .inl rfl
   ·rcases qE os _ _ _ _ _ _ hr S' hS' with rfl | h
    ·exact .inr ⟨T,rfl⟩
    ·exact .inr h
  ·split at h <;> try cases h
   split at h <;> simp only [Ps,Pv,reduceCtorEq] at h;rename_i qs Ss1 ent1 hr;obtain ⟨rfl,rfl,rfl⟩:=h;exact qE os _ _ _ _ _ _ hr S' hS'
theorem OK {S S':St} (h1:S.lh=S'.lh) (h2:S.env=S'.env) (h3:S.n=S'.n) (h4:S.lock=S'.lock):S=S':=by
 cases S; cases S';simp only at h1 h2 h3 h4;subst h1 h2 h3 h4;rfl
theorem Lt {S0:St} {ps qs:List Prop} {Ss:List St} {ent:List (Option (Nat×AV))} (hgo:iS P ss ops ops.toList 0 (Ex ss ops S0) []=some (ps,Ss,ent)) (hchk:Jw P ss ops Ss ent ops.toList 0=some qs) (hok:Pi ss ops S0.n Ss ent=true) (hlen:Ss.length=ec ss ops ops.size+1)
  (hps:∀ q∈ps,q) (hqs:∀ q∈qs,q):Graph P ss ops S0.n Ss ent:=by
 obtain ⟨g1,_,g3,g4⟩:=jL ops.toList 0 _ [] ps Ss ent hgo (by simp) (by omega) rfl;have e0:ec ss ops 0=0:=by simp [ec]
 simp only [e0,Nat.sub_zero] at g4
 have hU:∀ S'∈Ss,∃ T,S'=Ex ss ops T:=fun S' h=>by
  rcases qE _ _ _ _ _ _ _ hgo S' h with h | h
  ·exact ⟨S0,h⟩
  ·exact h
 unfold Pi at hok;simp only [Px] at hok;obtain ⟨⟨k1,k2⟩,k3⟩:=hok
 have sizeOf:∀ (i:Nat) o,ops[i]?=some o->i<ops.size:=by
  intro i o ho;rcases PU i ops.size with h | h
  ·exact h
  ·rw [Array.getElem?_eq_none h] at ho; cases ho
 have hrow:∀ (i:Nat) o,ops[i]?=some o->(xU ss ops ops.size i o&&o.guard.isNone&&(match o.dst with
    | some d=>Nat.blt d S0.n&&Nat.blt d 1000000
    | none=>true) &&
   (!ge ss o||((List.range i).all fun e=>match ops[e]? with
    | some oe=>!ge ss oe||dQ ops i e
    | none=>true)&&(List.range ent.length).all fun j=>dQ ops j i||match ent[j]? with
     | some (some (_,r))=>(match o.dst with
      | some d=>wF d r
      | none=>r.noGd)
     | _=>true))=true:=by
  intro i o ho;have:=PA.1 k1 i (by simpa using sizeOf i o ho);simpa only [ho] using this
 have hdist:∀ (i j:Nat) (oi oj:Oper) (d:Nat),ops[i]?=some oi->ops[j]?=some oj->oi.dst=some d->oj.dst=some d->i=j:=fun i j oi oj d hi hj=>DE ops.toList k2 i j oi oj d (by simpa using hi) (by simpa using hj)
 have hentry:∀ (j d:Nat) (r:AV),ent[j]?=some (some (d,r))->∃ o,ops[j]?=some o/\ge ss o=false/\o.dst=some d/\r.noGd=true:=by
  intro j d r hj
  have hjs:j<ops.size:=by
   rcases PU j ent.length with h | h
   ·omega
   ·rw [List.getElem?_eq_none h] at hj; cases hj
  have ho:ops[j]?=some ops[j]:=by simp [hjs]
  obtain ⟨Sj,_,a1,a2⟩:=g4 j _ (Qa _) ho;cases hu:ge ss ops[j]
  ·obtain ⟨_,r',d',b1,b2,_⟩:=a2 hu;rw [hj] at b1;injection b1 with b1
   injection b1 with b1
   injection b1 with b1 b3
   subst b1 b3;exact ⟨_,ho,hu,b2,cm _ _⟩
  ·have:=(a1 hu).1;rw [hj] at this;cases this
 have honce:vK ent:=by
  intro i j s a b hi hj;obtain ⟨oi,h1,_,h2,_⟩:=hentry i s a hi;obtain ⟨oj,h3,_,h4,_⟩:=hentry j s b hj;exact hdist i j oi oj s h1 h3 h2 h4
 have hfree:∀ (m:Nat) S,Ss[m]?=some S->∀ (j d:Nat) (r:AV),ent[j]?=some (some (d,r))->S.env d=.any:=by
  intro m S hS j d r hj;obtain ⟨T,rfl⟩:=hU S (QM hS);obtain ⟨o,h1,h2,h3,_⟩:=hentry j d r hj;have hmem:o∈ops.toList:=QM (show ops.toList[j]?=some o by simpa using h1);rw [sW,if_pos];simp only [tg,PY];exact Q2.2 ⟨o,hmem,by rw [h2]; simp [h3]⟩
 have hokAt:∀ (i:Nat) o,ops[i]?=some o->xU ss ops ops.size i o=true/\o.guard=none/\∀ d,o.dst=some d->d<S0.n/\d<1000000:=by
  intro i o ho;have:=hrow i o ho;simp only [Px] at this;obtain ⟨⟨⟨h1,h2⟩,h3⟩,_⟩:=this;refine ⟨h1,by simpa using h2,fun d hd=>?_⟩;rw [hd] at h3;simp only [Px] at h3;exact ⟨PN h3.1,PN h3.2⟩
 have hbehind:∀ (i:Nat) o,ops[i]?=some o->∀ j,dQ ops i j=true->j<i:=by
  intro i o ho j hj;exact kV (ops:=ops) (L:=fun j=>j<i) (fun k ok hk hok e he=>by have:=(lE (hokAt k ok hok).1).1 e he; omega) (fun k hk=>by have:=sizeOf i o ho; omega) i o ho (fun e he=>(lE (hokAt i o ho).1).1 e he) j hj
 have hcut:∀ (m:Nat) S,Ss[m]?=some S->∀ (i:Nat) o,ops[i]?=some o->gK S (dr (dQ ops i) 0 (ent.take i))=gK S (dr (dQ ops i) 0 ent):=by
  intro m S hS i o ho;refine OK rfl (funext fun s=>?_) rfl rfl
  have ho1:vK (ent.take i):=by
   intro a b s x y h1 h2;rw [List.getElem?_take] at h1 h2;split at h1 <;> try cases h1
   split at h2 <;> try cases h2
   exact honce a b s x y h1 h2
  by_cases hk:∃ (j:Nat) (b:AV),ent[j]?=some (some (s,b))
  ·obtain ⟨j,b,hj⟩:=hk;rw [sS honce _ _ hj];by_cases hji:j<i
   ·have:(ent.take i)[j]?=some (some (s,b)):=by rw [List.getElem?_take,if_pos hji]; exact hj
    rw [sS ho1 _ _ this]
   ·have hw:dQ ops i j=false:=by
     cases h:dQ ops i j
     ·rfl
     ·exact absurd (hbehind i o ho j h) hji
    rw [hw,PF,dE,hfree m S hS j s b hj];intro j' b' hj';rw [List.getElem?_take] at hj';split at hj' <;> try cases hj'
    rename_i hlt;have:=honce j' j s b' b hj' hj;omega
  ·have hk':∀ (j:Nat) a,ent[j]?≠some (some (s,a)):=fun j a e=>hk ⟨j,a,e⟩
   rw [dE _ _ hk',dE];intro j b hj;rw [List.getElem?_take] at hj;split at hj <;> try cases hj
   exact hk' j b hj
 refine ⟨g1,hlen,fun m S hS=>?_,fun m S hS s=>?_,hfree,honce,hdist,hokAt,fun j o ho hu=>?_,fun j o ho hu=>?_,fun i e oi oe hi he hui hue hei=>?_,fun i oi hi hui j d r hj hnw=>?_⟩
 ·exact Pw (PA.1 k3 S (QM hS))
 ·obtain ⟨T,rfl⟩:=hU S (QM hS);exact J7 T s
 ·obtain ⟨Sj,a0,_,a2⟩:=g4 j o (Qa _) ho;obtain ⟨qs1,r,d,b1,b2,b3,b4⟩:=a2 hu;refine ⟨d,r.opn [],b1,cm _ _,b2,fun m S hS hpm=>?_⟩;by_cases hm:m=ec ss ops j
  ·subst hm;rw [hS] at a0;injection a0 with a0
   subst a0;rw [hcut _ S hS j o ho] at b3;exact ⟨qs1,r,b3,rfl,fun q hq=>hps q (b4 q hq)⟩
  ·obtain ⟨qs2,c1,c2⟩:=rm ops.toList 0 qs hchk hqs j o d (r.opn []) (by simpa using ho) (by simpa using b1);rw [Qg] at c1
   have hml:m<Ss.length:=by
    rcases PU m Ss.length with h | h
    ·exact h
    ·rw [List.getElem?_eq_none h] at hS; cases hS
   obtain ⟨S',qs3,r',d1,d2,d3,d4⟩:=rl _ qs2 c1 c2 m (by simpa using hml) hm hpm;rw [hS] at d1;injection d1 with d1
   subst d1;exact ⟨qs3,r',d2,d3,d4⟩
 ·obtain ⟨Sj,a0,a1,_⟩:=g4 j o (Qa _) ho;obtain ⟨b1,qs1,T,b2,b3,b4⟩:=a1 hu;refine ⟨b1,Sj,qs1,T,a0,?_,fun q hq=>hps q (b3 q hq),b4⟩;rw [hcut _ Sj a0 j o ho] at b2;exact b2
 ·have:=hrow i oi hi;simp only [Px,Qq,hui,RA,PG,false_or] at this;have h1:=PA.1 this.2.1 e (by simpa using hei);simpa [he,hue] using h1
 ·have:=hrow i oi hi;simp only [Px,Qq,hui,RA,PG,false_or] at this
  have hjl:j<ent.length:=by
   rcases PU j ent.length with h | h
   ·exact h
   ·rw [List.getElem?_eq_none h] at hj; cases hj
  have h1:=PA.1 this.2.2 j (by simpa using hjl);rw [hnw,Re,hj] at h1;simp only at h1;unfold FE;cases hd:oi.dst with
  | none =>
   rw [hd] at h1;exact ⟨fun k hk=>(by cases hk),h1⟩
  | some d0 =>
   rw [hd] at h1;exact FP r h1
def Iw (P:Program) (ss:Specs) (ops:Array Oper) (S:St):Option (List Prop×St):=match xf P ss ops S with
 | some r=>some r
 | none=>xf P ss ops (S.freeze (eC ss ops S))
theorem xi (hss:ss.okA P M w0) {id:Nat} {S S':St} {ps:List Prop} {a:Act} {w:World} (hr:xf P ss ops S=some (ps,S')) (hps:∀ q∈ps,q) (hS:Sat M p0 w0 S a.tmps w)
  (hQ:∀ a' w',Sat M p0 w0 S' a'.tmps w'->a'.defers=a.defers->Q .normal a' w'):(Code.region id ops true).wp P Q a w:=by
 unfold xf at hr;generalize Dd ops ops.size=k at *;have hhd0:∀ i,i<k->ops[i]?=(ops.toList.take k).toArray[i]?:=fun i hi=>by simp [hi]
 have hsz0:k<=ops.size->((ops.toList.take k).toArray).size=k:=fun h=>by simp; omega
 generalize (ops.toList.take k).toArray=hd at *;unfold KF at hr;split at hr <;> try cases hr
 rename_i ps1 Ss ent hgo;split at hr <;> try cases hr
 rename_i qs Sr hchk hlast;split at hr <;> try cases hr
 rename_i hck;split at hr <;> simp only [Ps,Pv,reduceCtorEq] at hr;rename_i qs2 S2 hrun;simp only [Px] at hck;obtain ⟨rfl,rfl⟩:=hr;have hlen:=Pw hck.1.2;have hkle:=PN hck.2.1;have hksz:=hsz0 hkle;subst hksz
 have sizeOf:∀ (i:Nat) o,ops[i]?=some o->i<ops.size:=by
  intro i o ho;rcases PU i ops.size with h | h
  ·exact h
  ·rw [Array.getElem?_eq_none h] at ho; cases ho
 have hrow:∀ (i:Nat) o,ops[i]?=some o->((bq o).all (fun e=>Nat.blt e i)&&(Nat.blt i hd.size||(List.range i).all (fun j=>((eU ops).getD i 0).testBit j)))=true:=by
  intro i o ho;have:=PA.1 hck.2.2 i (by simpa using sizeOf i o ho);simpa only [ho] using this
 have hedge:∀ (i:Nat) o,ops[i]?=some o->∀ e∈bq o,e<i:=by
  intro i o ho e he;have:=hrow i o ho;simp only [Px] at this;simpa using PA.1 this.1 e he
 have htail:∀ (i:Nat) o,hd.size<=i->ops[i]?=some o->∀ j,j<i->((eU ops).getD i 0).testBit j=true:=by
  intro i o hi ho j hj;have:=hrow i o ho;simp only [Px,Qq] at this;rcases this.2 with h | h
  ·have:=PN h; omega
  ·exact PA.1 h j (by simpa using hj)
 have G:=Lt hgo hchk hck.1.1.2 hlen (fun q hq=>hps q (PE _ hq)) (fun q hq=>hps q (PK _ (PE _ hq)))
 have hSr:Ss[ec ss hd hd.size]?=some Sr:=by
  rw [List.getLast?_eq_getElem?,hlen] at hlast;exact hlast
 have hS0:Ss[0]?=some (Ex ss hd S):=(jL hd.toList 0 _ [] ps1 Ss ent hgo (by simp) (by omega) rfl).2.2.1
 have hS2:Sat M p0 w0 S.clean a.tmps { w with drawn:=w.drawn+1 }:=by
  obtain ⟨p,β,h⟩:=em hS;exact ⟨p,β,⟨h.keep.os,h.keep.tape,h.keep.output,h.keep.size,h.keep.block⟩,h.agr,h.old,h.size,h.lhs,h.owns,h.inj,h.env⟩
 have hempty:∀ j,j<ops.size->(Array.replicate ops.size false).getD j true=false:=fun j hj=>by simp [hj]
 refine wp_region_any hck.1.1.1 ?_;refine OV (M:=M) (p0:=p0) (w0:=w0) hss G hkle hhd0 hedge htail (ds:=a.defers) hSr (fun a' w' hS' hd'=>?_) ops.size _ a _ 0 (Ex ss hd S) (by simp) ?_ ?_ ?_ (Qa _) hS0 (fun j _ hj=>hempty j hj) ?_ rfl
 ·exact k9 hss _ _ S2 qs2 a' w' hrun (fun q hq=>hps q (PK _ (PK _ hq))) hS' (fun a'' w'' h5 h6=>hQ a'' w'' h5 (h6.trans hd'))
 ·have:∀ n,AX (Array.replicate ops.size false) n<=n:=by
   intro n
   induction n with
   | zero=>exact PP _
   | succ n ih=>simp only [AX]; split <;> omega
  exact this _
 ·intro i o hi ho;have hi:(Array.replicate ops.size false).getD i true=true:=hi;rw [hempty i (sizeOf i o ho)] at hi;cases hi
 ·intro i o ho _
  have his:i<hd.size:=by
   rcases PU i hd.size with h | h
   ·exact h
   ·rw [Array.getElem?_eq_none h] at ho; cases ho
  rw [hempty i (by omega)];simp
 ·refine hS2.weak (fun s=>?_) rfl rfl;by_cases hk:∃ (j:Nat) (b:AV),ent[j]?=some (some (s,b))
  ·obtain ⟨j,b,hj⟩:=hk
   have hjs:j<hd.size:=by
    rcases PU j ent.length with h | h
    ·rw [<- G.size]; exact h
    ·rw [List.getElem?_eq_none h] at hj; cases hj
   rw [sS G.once _ _ hj,hempty j (by omega)];exact .inr rfl
  ·have hk':∀ (j:Nat) a,ent[j]?≠some (some (s,a)):=fun j a e=>hk ⟨j,a,e⟩
   rw [dE _ _ hk',sW];split
   ·exact .inr rfl
   ·exact .inl rfl
end
section
variable {M:Nat->Prop} {p0:PH} {w0:World} {P:Program} {ss:Specs} {ops:Array Oper} {Q:Exit->Act->World->Prop}
def Gy (_:Program) (_:Specs) (_:Array Oper) (_:St):Option (List Prop×St):=none
theorem xj (_:ss.okA P M w0) {id:Nat} {S S':St} {ps:List Prop} {a:Act} {w:World} (hr:Gy P ss ops S=some (ps,S')) (_:∀ q∈ps,q) (_:Sat M p0 w0 S a.tmps w)
  (_:∀ a' w',Sat M p0 w0 S' a'.tmps w'->a'.defers=a.defers->Q .normal a' w'):(Code.region id ops true).wp P Q a w:=by cases hr
def Ix (P:Program) (ss:Specs) (ops:Array Oper) (S:St):Option (List Prop×St):=match Gy P ss ops S with
 | some r=>some r
 | none=>Gy P ss ops (S.freeze (eC ss ops S))
def mB (P:Program) (ss:Specs) (ops:Array Oper) (S:St):Option (List Prop×St):=match oZ P ss ops S with
 | some r=>some r
 | none=>match Iw P ss ops S with
  | some r=>some r
  | none=>Ix P ss ops S
theorem Cd (hss:ss.okA P M w0) {S:St} {id:Nat} {S':St} {ps:List Prop} {a:Act} {w:World} (hr:Iw P ss ops S=some (ps,S')) (hps:∀ q∈ps,q) (hS:Sat M p0 w0 S a.tmps w)
  (hQ:∀ a' w',Sat M p0 w0 S' a'.tmps w'->a'.defers=a.defers->Q .normal a' w'):(Code.region id ops true).wp P Q a w:=by
 unfold Iw at hr;split at hr
 ·rename_i r h;injection hr with hr
  subst hr;exact xi hss h hps hS hQ
 ·obtain ⟨pF,βF,hSF⟩:=hS;obtain ⟨p1F,_,hS1F⟩:=bX (eC ss ops S) S pF hSF;exact xi hss hr hps ⟨p1F,βF,hS1F⟩ hQ
theorem Ce (hss:ss.okA P M w0) {S:St} {id:Nat} {S':St} {ps:List Prop} {a:Act} {w:World} (hr:Ix P ss ops S=some (ps,S')) (hps:∀ q∈ps,q) (hS:Sat M p0 w0 S a.tmps w)
  (hQ:∀ a' w',Sat M p0 w0 S' a'.tmps w'->a'.defers=a.defers->Q .normal a' w'):(Code.region id ops true).wp P Q a w:=by
 unfold Ix at hr;split at hr
 ·rename_i r h;injection hr with hr
  subst hr;exact xj hss h hps hS hQ
 ·obtain ⟨pF,βF,hSF⟩:=hS;obtain ⟨p1F,_,hS1F⟩:=bX (eC ss ops S) S pF hSF;exact xj hss hr hps ⟨p1F,βF,hS1F⟩ hQ
theorem zG (hss:ss.okA P M w0) {S0:St} {id:Nat} {S':St} {ps:List Prop} {a:Act} {w:World} (hr:mB P ss ops S0.clean=some (ps,S')) (hps:∀ q∈ps,q) (hS:Sat M p0 w0 S0.clean a.tmps w)
  (hQ:∀ a' w',Sat M p0 w0 S' a'.tmps w'->a'.defers=a.defers->Q .normal a' w'):(Code.region id ops true).wp P Q a w:=by
 unfold mB at hr;split at hr
 ·rename_i r h;injection hr with hr
  subst hr;exact Cf hss h hps hS hQ
 ·split at hr
  ·rename_i r h;injection hr with hr
   subst hr;exact Cd hss h hps hS hQ
  ·exact Ce hss hr hps hS hQ
def mC (b:Bool) (P:Program) (ss:Specs) (ops:Array Oper) (S:St):Option (List Prop×St):=bif b then (match Iw P ss ops S with
 | some r=>some r
 | none=>Ix P ss ops S) else mB P ss ops S
theorem zH (hss:ss.okA P M w0) {S0:St} {b:Bool} {id:Nat} {S':St} {ps:List Prop} {a:Act} {w:World} {Q:Exit->Act->World->Prop} (hr:mC b P ss ops S0.clean=some (ps,S')) (hps:∀ q∈ps,q) (hS:Sat M p0 w0 S0.clean a.tmps w)
  (hQ:∀ a' w',Sat M p0 w0 S' a'.tmps w'->a'.defers=a.defers->Q .normal a' w'):(Code.region id ops true).wp P Q a w:=by
 unfold mC at hr;cases b
 ·exact zG hss hr hps hS hQ
 ·simp only [PZ] at hr;split at hr
  ·rename_i r h;injection hr with hr
   subst hr;exact Cd hss h hps hS hQ
  ·exact Ce hss hr hps hS hQ
end
def AT (bad:Nat->Bool) (x:AV):Prop:=x.scrub bad=x/\x.noGd=true
structure Fr (L:List Nat) (bad:Nat->Bool) (S S':St):Prop where
 n:S'.n=S.n
 lock:S'.lock=S.lock
 env:∀ s,L.contains s=false->AT bad (S.env s)->S'.env s=S.env s
 lh:∀ d,S.lock d=true->(∀ e,S.lh d=some e->e.scrub bad=e)->S'.lh d=S.lh d
 frames:∀ d tm env,S.lh d=some (.frame tm env)->∃ env',S'.lh d=some (.frame tm env')/\∀ s,AT bad (env s)->env' s=env s
structure Tidy (bad:Nat->Bool) (S:St):Prop where
 lock:∀ d,S.lock d=true->bad d=false
 row:∀ d e T xs,S.lh d=some (.row e T xs)->S.lock d=false->bad d=true
 frame:∀ d tm env,S.lh d=some (.frame tm env)->S.lock d=true
theorem Fr.refl (L:List Nat) (bad:Nat->Bool) (S:St):Fr L bad S S:=⟨rfl,rfl,fun _ _ _=>rfl,fun _ _ _=>rfl,fun _ _ env h=>⟨env,h,fun _ _=>rfl⟩⟩
theorem Fr.trans {L:List Nat} {bad:Nat->Bool} {S S1 S2:St} (h:Fr L bad S S1) (k:Fr L bad S1 S2):Fr L bad S S2:=by
 refine ⟨k.n.trans h.n,k.lock.trans h.lock,fun s hs hst=>?_,fun d hd hst=>?_,fun d tm env he=>?_⟩
 ·have h1:=h.env s hs hst;exact (k.env s hs (by rw [h1]; exact hst)).trans h1
 ·have h1:=h.lh d hd hst;exact (k.lh d (by rw [h.lock]; exact hd) (by rw [h1]; exact hst)).trans h1
 ·obtain ⟨e1,k1,k2⟩:=h.frames d tm env he;obtain ⟨e2,k3,k4⟩:=k.frames d tm e1 k1;exact ⟨e2,k3,fun s hs=>(k4 s (by rw [k2 s hs]; exact hs)).trans (k2 s hs)⟩
theorem dC {b1 bad:Nat->Bool} (hb:∀ d,b1 d=true->bad d=true):∀ (x:AV),x.scrub bad=x->x.scrub b1=x:=by
 intro x
 induction x with
 | own d=>intro h; simp only [AV.scrub] at h |-; cases h1:b1 d; rfl; rw [hb d h1] at h; cases h
 | loc d off=>intro h; simp only [AV.scrub] at h |-; cases h1:b1 d; rfl; rw [hb d h1] at h; cases h
 | el d T i off=>intro h; simp only [AV.scrub] at h |-; cases h1:b1 d; rfl; rw [hb d h1] at h; cases h
 | mp d=>intro h; simp only [AV.scrub] at h |-; cases h1:b1 d; rfl; rw [hb d h1] at h; cases h
 | osl d T i n=>intro h; simp only [AV.scrub] at h |-; cases h1:b1 d; rfl; rw [hb d h1] at h; cases h
 | psl d i n=>intro h; simp only [AV.scrub] at h |-; cases h1:b1 d; rfl; rw [hb d h1] at h; cases h
 | fn f c1 c2 =>
  intro h;simp only [AV.scrub] at h |-
  have key:∀ (c:List (Nat×Nat)),(c.any fun x=>b1 x.1)=true->(c.any fun x=>bad x.1)=true:=by
   intro c hc;obtain ⟨x,hx,h1⟩:=Qt.1 hc;exact Qt.2 ⟨x,hx,hb _ h1⟩
  cases h1:(c1.any fun x=>b1 x.1)||(c2.any fun x=>b1 x.1)
  ·rfl
  ·exfalso
   have:((c1.any fun x=>bad x.1)||(c2.any fun x=>bad x.1))=true:=by
    simp only [Qq] at h1 |-;exact h1.imp (key c1) (key c2)
   rw [this] at h;cases h
 | pair a b iha ihb=>intro h; simp only [AV.scrub,AV.pair.injEq] at h |-; exact ⟨iha h.1,ihb h.2⟩
 | tup a b iha ihb=>intro h; simp only [AV.scrub,AV.tup.injEq] at h |-; exact ⟨iha h.1,ihb h.2⟩
 | gd g w a iha=>intro h; simp only [AV.scrub,AV.gd.injEq,Ro] at h |-; exact iha h
 | _=>intro _; rfl
theorem ik {b1 bad:Nat->Bool} (hb:∀ d,b1 d=true->bad d=true) (e:LE) (h:e.scrub bad=e):e.scrub b1=e:=by
 cases e with
 | cells c=>simp only [LE.scrub,LE.cells.injEq] at h |-; exact dC hb c h
 | mapo k V m x c =>
  simp only [LE.scrub,LE.mapo.injEq,heq_eq_eq,Ro] at h |-;exact dC hb c h
 | frame tm env=>simp only [LE.scrub,LE.frame.injEq,Ro] at h |-; funext s; exact dC hb _ (congrFun h s)
 | _=>rfl
theorem uK {x:AV} (h:x.noGd=true) (d:Nat):x.killG d=x:=by cases x <;> first | (cases h; done) | rfl
section
variable {L:List Nat} {bad:Nat->Bool} {S:St}
theorem iD {d:Nat} (hd:L.contains d=true) (x:AV):Fr L bad S (S.set d x):=by
 refine ⟨rfl,rfl,fun s hs hst=>?_,fun _ _ _=>rfl,fun _ _ env h=>⟨env,h,fun _ _=>rfl⟩⟩;have hne:s≠d:=by intro e; subst e; rw [hd] at hs; cases hs
 simp only [St.set,cg hne,PF];exact uK hst.2 d
theorem eG (h:Tidy bad S) (d:Nat) (x:AV):Tidy bad (S.set d x):=⟨h.lock,h.row,h.frame⟩
theorem cS (h:Tidy bad S) {d:Nat} (hd:S.lock d=false) (e:LE):Fr L bad S (S.entry d e):=by
 refine ⟨rfl,rfl,fun _ _ _=>rfl,fun d' hd' _=>?_,fun d' tm env he=>⟨env,?_,fun _ _=>rfl⟩⟩
 ·have hne:d'≠d:=by intro e; subst e; rw [hd] at hd'; cases hd'
  simp only [St.entry,cg hne,PF]
 ·have hne:d'≠d:=by intro e; subst e; have:=h.frame _ _ _ he; rw [hd] at this; cases this
  simp only [St.entry,cg hne,PF];exact he
theorem bU (h:Tidy bad S) {d:Nat} {e:LE} (he:∀ t T xs,e=.row t T xs->bad d=true) (hf:∀ tm env,e≠.frame tm env:=by intro _ _ h; cases h):Tidy bad (S.entry d e):=by
 refine ⟨h.lock,fun d' t T xs hd' hl=>?_,fun d' tm env hd'=>?_⟩
 ·by_cases hne:d'=d
  ·subst hne;simp only [St.entry,eu,PZ,Ps] at hd';exact he t T xs hd'
  ·simp only [St.entry,cg hne,PF] at hd';exact h.row d' t T xs hd' hl
 ·by_cases hne:d'=d
  ·subst hne;simp only [St.entry,eu,PZ,Ps] at hd';exact absurd hd' (hf tm env)
  ·simp only [St.entry,cg hne,PF] at hd';exact h.frame d' tm env hd'
theorem uV (h:Tidy bad S) {d:Nat} (hd:bad d=true) (e:LE) (hf:∀ tm env,e≠.frame tm env:=by intro _ _ h; cases h):Fr L bad S (S.fresh d e)/\Tidy bad (S.fresh d e):=by
 have hsub:∀ x,Nat.beq x d=true->bad x=true:=fun x hx=>by rw [Pw hx]; exact hd
 have hlk:∀ d',S.lock d'=true->d'≠d:=by intro d' hd' e; subst e; have:=h.lock _ hd'; rw [hd] at this; cases this
 refine ⟨⟨rfl,rfl,fun _ _ hst=>dC hsub _ hst.1,fun d' hd' hst=>?_,fun d' tm env he=>?_⟩,⟨h.lock,fun d' t T xs hd' hl=>?_,fun d' tm env hd'=>?_⟩⟩
 ·simp only [St.fresh,St.entry,St.scrub,cg (hlk d' hd'),PF];cases hl:S.lh d' with
  | none=>rfl
  | some e0=>simp only [Qb,ik hsub e0 (hst e0 hl)]
 ·have hne:=hlk d' (h.frame _ _ _ he);refine ⟨fun s=>(env s).scrub (fun x=>Nat.beq x d),?_,fun s hs=>dC hsub _ hs.1⟩;simp only [St.fresh,St.entry,St.scrub,cg hne,PF,he,Qb,LE.scrub]
 ·by_cases hne:d'=d
  ·subst hne; exact hd
  ·simp only [St.fresh,St.entry,St.scrub,cg hne,PF,Py] at hd';obtain ⟨e0,h1,h2⟩:=hd';cases e0 <;> simp only [LE.scrub,reduceCtorEq] at h2;exact h.row d' _ _ _ h1 hl
 ·by_cases hne:d'=d
  ·subst hne;simp only [St.fresh,St.entry,eu,PZ,Ps] at hd';exact absurd hd' (hf tm env)
  ·simp only [St.fresh,St.entry,St.scrub,cg hne,PF,Py] at hd';obtain ⟨e0,h1,h2⟩:=hd';cases e0 <;> simp only [LE.scrub,reduceCtorEq] at h2;exact h.frame d' _ _ h1
theorem FO (h:Tidy bad S) (d:Nat):Fr L bad S (S.freeze1 d)/\Tidy bad (S.freeze1 d):=by
 unfold St.freeze1;split
 ·split
  ·exact ⟨Fr.refl _ _ _,h⟩
  ·rename_i hl;exact ⟨cS h (by simpa using hl) _,bU h (fun t T xs e=>by cases e)⟩
 ·split
  ·exact ⟨Fr.refl _ _ _,h⟩
  ·rename_i hl;exact ⟨cS h (by simpa using hl) _,bU h (fun t T xs e=>by cases e)⟩
 ·exact ⟨Fr.refl _ _ _,h⟩
theorem di:∀ (ds:List Nat) (S:St),Tidy bad S->Fr L bad S (S.freeze ds)/\Tidy bad (S.freeze ds)
 | [],S,h=>⟨Fr.refl _ _ _,h⟩
 | d::ds,S,h=>by
  have h1:=FO (L:=L) h d;have h2:=di ds (S.freeze1 d) h1.2;exact ⟨h1.1.trans h2.1,h2.2⟩
theorem Dn {d:Nat} (hd:∀ k,bad (bv d k)=true):∀ (Rs:List RT) (k:Nat) (x:eB Rs) (S:St),Tidy bad S->Fr L bad S (lf d k Rs x S)/\Tidy bad (lf d k Rs x S):=by
 have put:∀ (R:RT) (x:R.den) (k:Nat) (S:St),Tidy bad S->Fr L bad S (R.put x (bv d k) S)/\Tidy bad (R.put x (bv d k) S):=by
  intro R x k S h;cases R with
  | dat T=>exact ⟨Fr.refl _ _ _,h⟩
  | own e T=>exact uV h (hd k) _
  | map k' V=>exact uV h (hd k) _
 intro Rs
 induction Rs with
 | nil=>intro k x S h; exact ⟨Fr.refl _ _ _,h⟩
 | cons R Rs ih =>
  intro k x S h;cases Rs with
  | nil=>exact put R x k S h
  | cons U Rs =>
   have h1:=put R x.1 k S h;have h2:=ih (k+1) x.2 _ h1.2;exact ⟨h1.1.trans h2.1,h2.2⟩
def Named (L:List Nat) (bad:Nat->Bool):Prop:=∀ d,L.contains d=true->∀ k,bad (bv d k)=true
theorem Named.at0 (h:Named L bad) {d:Nat} (hd:L.contains d=true):bad d=true:=by
 have:=h d hd 0;simpa [bv] using this
theorem cF (hN:Named L bad) (h:Tidy bad S) {d:Nat} (hd:L.contains d=true) (e:LE) (x:AV) (hf:∀ tm env,e≠.frame tm env:=by intro _ _ h; cases h):Fr L bad S ((S.fresh d e).set d x)/\Tidy bad ((S.fresh d e).set d x):=by
 have h1:=uV (L:=L) h (hN.at0 hd) e hf;exact ⟨h1.1.trans (iD hd x),eG h1.2 d x⟩
theorem Ah {P:Program} (h:Tidy bad S) {t:TypeId} {m x v:AV} {ps:List Prop} {S':St} (he:gY P S t m x v=some (ps,S')):Fr L bad S S'/\Tidy bad S':=by
 unfold gY at he;split at he <;> try cases he
 rename_i d k' n _;split at he <;> try cases he
 split at he <;> try cases he
 split at he
 ·cases he
 rename_i hl;split at he <;> simp only [Ps,Pv,reduceCtorEq] at he;obtain ⟨_,rfl⟩:=he;have h1:=di (L:=L) (bad:=bad) v.owns S h;have hl2:(S.freeze v.owns).lock d=false:=by rw [(cN _ _).2.2]; simpa using hl
 exact ⟨h1.1.trans (cS h1.2 hl2 _),bU h1.2 (fun t T xs e=>by cases e)⟩
theorem sw {b:Bool} {P:Program} (h:Tidy bad S) {t:TypeId} {m x v:AV} {ps:List Prop} {S':St} (he:gq b P S t m x v=some (ps,S')):Fr L bad S S'/\Tidy bad S':=by
 unfold gq at he;cases b with
 | true =>
  simp only [PZ] at he;unfold lr at he;split at he <;> try cases he
  split at he <;> try cases he
  split at he <;> try cases he
  split at he
  ·cases he
  rename_i hl;split at he <;> simp only [Ps,Pv,reduceCtorEq] at he;obtain ⟨_,rfl⟩:=he;exact ⟨cS h (by simpa using hl) _,bU h (fun t T xs e=>by cases e)⟩
 | false =>
  simp only [PF] at he;split at he
  ·rename_i h1;injection he with he
   subst he;unfold eQ at h1;split at h1 <;> try cases h1
   split at h1 <;> try cases h1
   split at h1 <;> try cases h1
   split at h1
   ·cases h1
   rename_i hl;split at h1 <;> simp only [Ps,Pv,reduceCtorEq] at h1;obtain ⟨_,rfl⟩:=h1;exact ⟨cS h (by simpa using hl) _,bU h (fun t T xs e=>by cases e)⟩
  ·exact Ah h he
theorem Af (hN:Named L bad) (h:Tidy bad S) {d:Nat} (hdL:L.contains d=true) {r:RowFn} {x:AV} {rest:List AV} {ps:List Prop} {S':St} (he:jC S d r x rest=some (ps,S')) :
  Fr L bad S S'/\Tidy bad S':=by
 unfold jC at he;have h1:=di (L:=L) (bad:=bad) ((r.mid rest).flatMap AV.owns) S h;have hlk:(S.freeze ((r.mid rest).flatMap AV.owns)).lock=S.lock:=(cN _ _).2.2;generalize S.freeze ((r.mid rest).flatMap AV.owns)=S1 at *;split at he <;> try cases he
 rename_i n xs hxr;obtain ⟨_,hn⟩:=ob hxr;split at he <;> try cases he
 rename_i ys y _ _;split at he <;> simp only [Ps,Pv,reduceCtorEq] at he;rename_i hb;obtain ⟨rfl,rfl⟩:=he;simp only [Px,PX] at hb;have hl:S1.lock n=false:=by rw [hlk]; exact hb.1.1
 cases r.out
 ·simp only [PF];have h2:Fr L bad S1 (S1.entry n (.row r.e r.T (r.F xs ys y))):=cS h1.2 hl _;have h3:Tidy bad (S1.entry n (.row r.e r.T (r.F xs ys y))):=bU h1.2 (fun t T xs e=>h1.2.row _ _ _ _ hn hl);exact ⟨(h1.1.trans h2).trans (iD hdL _),eG h3 d _⟩
 ·simp only [PZ];have h2:Fr L bad S1 (S1.entry n .dead):=cS h1.2 hl .dead;have h3:Tidy bad (S1.entry n .dead):=bU h1.2 (fun t T xs e=>by cases e);have h4:=cF (L:=L) hN h3 hdL (.row r.e r.T (r.F xs ys y)) (.own d);exact ⟨(h1.1.trans h2).trans h4.1,h4.2⟩
theorem Ai (hN:Named L bad) (h:Tidy bad S) {d:Nat} (hdL:L.contains d=true) {r:BoxFn} {x:AV} {rest:List AV} {ps:List Prop} {S':St} (he:jD S d r x rest=some (ps,S')) :
  Fr L bad S S'/\Tidy bad S':=by
 unfold jD at he;split at he <;> try cases he
 rename_i n;have h1:=di (L:=L) (bad:=bad) (dj S n++rest.flatMap AV.owns) S h;have hlk:(S.freeze (dj S n++rest.flatMap AV.owns)).lock=S.lock:=(cN _ _).2.2;generalize S.freeze (dj S n++rest.flatMap AV.owns)=S1 at *;split at he <;> try cases he
 rename_i c hn;split at he <;> try cases he
 rename_i x0 y _ _;split at he <;> simp only [Ps,Pv,reduceCtorEq] at he;rename_i hb;obtain ⟨rfl,rfl⟩:=he;simp only [Px,PX] at hb;have h2:Fr L bad S1 (S1.entry n (.cells (r.T.av (r.F x0 y).2))):=cS h1.2 (by rw [hlk]; exact hb.1) _;have h3:Tidy bad (S1.entry n (.cells (r.T.av (r.F x0 y).2))):=bU h1.2 (fun t T xs e=>by cases e);have h4:=Dn (L:=L) (hN d hdL) r.Rs 0 (r.F x0 y).1 _ h3;exact ⟨((h1.1.trans h2).trans h4.1).trans (iD hdL _),eG h4.2 d _⟩
theorem LA {P:Program} {ss:Specs} (hN:Named L bad) (h:Tidy bad S) {o:Oper} (hd:∀ d,o.dst=some d->L.contains d=true) {ps:List Prop} {S':St} (he:Mw P ss S o=some (ps,S')) :
  Fr L bad S S'/\Tidy bad S':=by
 unfold Mw at he;split at he
 ·split at he
  case h_2=>exact sw h he
  case h_3=>exact sw h he
  case h_4 =>
   split at he <;> try cases he
   unfold s8 at he;split at he <;> try cases he
   rename_i d T i n _;split at he <;> try cases he
   rename_i e T' xs iC;split at he <;> try cases he
   rename_i hT;subst hT;split at he <;> try cases he
   split at he <;> try cases he
   split at he <;> try cases he
   split at he <;> try cases he
   rename_i y hy;split at he <;> simp only [Ps,Pv,reduceCtorEq] at he;rename_i hb;obtain ⟨rfl,rfl⟩:=he;simp only [Px,PX] at hb;exact ⟨cS h hb.1 _,bU h (fun t T xs e=>h.row _ _ _ _ iC hb.1)⟩
  case h_5=>cases he
  rename_i t ad v ho;unfold kE at he;split at he <;> try cases he
  split at he
  ·cases he
  split at he
  ·split at he <;> try cases he
   split at he <;> simp only [Ps,Pv,reduceCtorEq] at he <;> obtain ⟨rfl,rfl⟩:=he;rename_i hb;simp only [Px,PX] at hb;exact ⟨cS h hb.1.1.1.1 _,bU h (fun t T xs e=>by cases e)⟩
  ·split at he;rotate_left
   ·rename_i d T i off _ _ c hlh;split at he <;> try cases he
    split at he <;> simp only [Ps,Pv,reduceCtorEq] at he <;> obtain ⟨rfl,rfl⟩:=he;rename_i hb;simp only [Px,PX] at hb;have h1:=di (L:=L) (bad:=bad) (S.look [] v).owns S h;have hl:(S.freeze (S.look [] v).owns).lock d=false:=by rw [(cN _ _).2.2]; exact hb.1.1
    exact ⟨h1.1.trans (cS h1.2 hl _),bU h1.2 (fun t T xs e=>by cases e)⟩
   ·cases he
   rename_i d T i off _ _ e' T' xs hlh;split at he <;> try cases he
   rename_i hT;subst hT;split at he <;> try cases he
   rename_i hb;split at he <;> simp only [Ps,Pv,reduceCtorEq] at he <;> obtain ⟨rfl,rfl⟩:=he;simp only [Px,PX] at hb;have h1:=di (L:=L) (bad:=bad) (S.look [] v).owns S h;have hl:(S.freeze (S.look [] v).owns).lock d=false:=by rw [(cN _ _).2.2]; exact hb.1.1.1.1
   refine ⟨h1.1.trans (cS h1.2 hl _),bU h1.2 (fun t T xs e=>?_)⟩;exact h1.2.row _ _ _ _ hlh hl
  ·cases he
 ·rename_i d hdst;have hdL:=hd d hdst;split at he
  ·unfold Ha at he;split at he <;> simp only [Ps,Pv,reduceCtorEq] at he <;> obtain ⟨rfl,rfl⟩:=he;exact cF hN h hdL _ _
  ·unfold lS at he;split at he <;> try cases he
   split at he <;> try cases he
   split at he <;> simp only [Ps,Pv,reduceCtorEq] at he <;> obtain ⟨rfl,rfl⟩:=he;exact cF hN h hdL _ _
  ·rename_i f args ts ho;unfold lP at he;split at he
   ·split at he <;> try cases he
    split at he <;> try cases he
    exact Af hN h hdL he
   ·split at he <;> try cases he
    split at he <;> try cases he
    exact Ai hN h hdL he
   split at he <;> try cases he
   split at he <;> simp only [Ps,Pv,reduceCtorEq] at he <;> obtain ⟨rfl,rfl⟩:=he;rename_i q0 Rs x hev hb
   have h0:Fr L bad S (fL ss S f args.toList)/\Tidy bad (fL ss S f args.toList):=by
    unfold fL;split
    ·split
     ·exact di _ S h
     ·exact ⟨Fr.refl _ _ _,h⟩
    ·exact ⟨Fr.refl _ _ _,h⟩
   have h1:=Dn (L:=L) (hN d hdL) Rs 0 x _ h0.2;exact ⟨(h0.1.trans h1.1).trans (iD hdL _),eG h1.2 d _⟩
  ·split at he <;> try cases he
   split at he
   case isFalse =>
    unfold fc at he;split at he <;> try cases he
    split at he <;> try cases he
    split at he <;> try cases he
    split at he <;> try cases he
    split at he <;> try cases he
    split at he <;> simp only [Ps,Pv,reduceCtorEq] at he <;> obtain ⟨rfl,rfl⟩:=he;exact cF hN h hdL _ _
   unfold jU at he;split at he <;> try cases he
   split at he <;> try cases he
   split at he <;> try cases he
   split at he
   ·simp only [Ps,Pv] at he;obtain ⟨rfl,rfl⟩:=he;exact cF hN h hdL _ _
   ·split at he <;> try cases he
    split at he <;> try cases he
    split at he <;> simp only [Ps,Pv,reduceCtorEq] at he <;> obtain ⟨rfl,rfl⟩:=he;rename_i hb;simp only [Px,PX] at hb
    have gen:∀ d1,S.lock d1=false->∀ e x,(∀ tm env,e≠.frame tm env)->Fr L bad S (((S.entry d1 .dead).fresh d e).set d x)/\Tidy bad (((S.entry d1 .dead).fresh d e).set d x):=by
     intro d1 hl e x hf;have h1:Fr L bad S (S.entry d1 .dead):=cS h hl .dead;have h2:Tidy bad (S.entry d1 .dead):=bU h (fun t T xs e=>by cases e);have h3:=cF (L:=L) hN h2 hdL e x hf;exact ⟨h1.trans h3.1,h3.2⟩
    exact gen _ hb.1.2 _ _ (by intro _ _ h; cases h)
   ·cases he
  ·split at he <;> try cases he
   rename_i x y t t' _ _;unfold oI at he;split at he <;> try cases he
   rename_i d1 i n qs T' ys _ _;split at he <;> try cases he
   rename_i e T xs iC;split at he <;> try cases he
   rename_i hT;subst hT;split at he <;> simp only [Ps,Pv,reduceCtorEq] at he <;> obtain ⟨rfl,rfl⟩:=he;rename_i hb;simp only [Px,PX] at hb;have hl:S.lock d1=false:=hb.1.1.2;have h1:Fr L bad S (S.entry d1 (.row e T' (xs.take i++(ys.take (min ys.length n)++xs.drop (i+min ys.length n))))):=cS h hl _;have h2:Tidy bad (S.entry d1 (.row e T' (xs.take i++(ys.take (min ys.length n)++xs.drop (i+min ys.length n))))):=bU h (fun t T xs e=>h.row _ _ _ _ iC hl);exact ⟨h1.trans (iD hdL _),eG h2 d _⟩
  ·split at he <;> try cases he
   unfold oF at he;split at he <;> try cases he
   split at he <;> try cases he
   split at he <;> try cases he
   split at he <;> try cases he
   split at he <;> try cases he
   split at he <;> simp only [Ps,Pv,reduceCtorEq] at he <;> obtain ⟨rfl,rfl⟩:=he;exact cF hN h hdL _ _
  ·unfold jx at he;split at he
   case h_2 =>
    unfold kG at he;split at he <;> try cases he
    split at he <;> try cases he
    split at he <;> try cases he
    split at he <;> simp only [Ps,Pv,reduceCtorEq] at he <;> obtain ⟨rfl,rfl⟩:=he;exact cF hN h hdL _ _
   rename_i r hr;injection he with he
   subst he;have he:=hr;unfold lR at he;split at he <;> try cases he
   split at he <;> try cases he
   simp only at he;split at he <;> try cases he
   split at he <;> simp only [Ps,Pv,reduceCtorEq] at he <;> obtain ⟨rfl,rfl⟩:=he
   have gen:∀ ds e x,(∀ tm env,e≠.frame tm env)->Fr L bad S (((S.freeze ds).fresh d e).set d x)/\Tidy bad (((S.freeze ds).fresh d e).set d x):=by
    intro ds e x hf;have h1:=di (L:=L) (bad:=bad) ds S h;have h3:=cF (L:=L) hN h1.2 hdL e x hf;exact ⟨h1.1.trans h3.1,h3.2⟩
   exact gen _ _ _ (by intro _ _ h; cases h)
  ·unfold vf at he;split at he <;> try cases he
   rename_i d1 k b _ _;split at he <;> try cases he
   rename_i e T xs iC;split at he <;> simp only [Ps,Pv,reduceCtorEq] at he <;> obtain ⟨rfl,rfl⟩:=he;rename_i hb;simp only [Px,PX] at hb;have hl:S.lock d1=false:=hb.1.1.2;have h1:Fr L bad S (S.entry d1 .dead):=cS h hl .dead;have h2:Tidy bad (S.entry d1 .dead):=bU h (fun t T xs e=>by cases e);have h3:=cF (L:=L) hN h2 hdL (.row e T (xs.take b.toNat)) (.own d);exact ⟨h1.trans h3.1,h3.2⟩
  ·unfold lQ at he;split at he <;> try cases he
   split at he <;> try cases he
   split at he <;> try cases he
   split at he <;> simp only [Ps,Pv,reduceCtorEq] at he <;> obtain ⟨rfl,rfl⟩:=he;exact ⟨iD hdL _,eG h _ _⟩
  ·unfold np at he;split at he <;> try cases he
   split at he <;> simp only [Ps,Pv,reduceCtorEq] at he <;> obtain ⟨rfl,rfl⟩:=he;exact cF hN h hdL _ _
  ·unfold s6 at he;split at he <;> try cases he
   rename_i m _ _;split at he <;> try cases he
   rename_i k V l _;split at he <;> simp only [Ps,Pv,reduceCtorEq] at he <;> obtain ⟨rfl,rfl⟩:=he;rename_i hb;simp only [Px,PX] at hb;have h2:Tidy bad (S.entry m (.frozm k V l)):=bU h (fun t T xs e=>by cases e);have h3:=cF (L:=L) hN h2 hdL (.iter k V l none) (.loc d 0);exact ⟨(cS h hb.2 _).trans h3.1,h3.2⟩
  ·split at he <;> simp only [Ps,Pv,reduceCtorEq] at he <;> obtain ⟨rfl,rfl⟩:=he;exact ⟨iD hdL _,eG h _ _⟩
  ·cases he
theorem Ag {P:Program} {ss:Specs} {ops:Array Oper} (hN:Named L bad) (h:Tidy bad S) {o:Oper} (hd:∀ d,o.dst=some d->L.contains d=true) {ps:List Prop} {S':St}
  (he:Ao P ss ops o S=some (ps,S')):Fr L bad S S'/\Tidy bad S':=by
 unfold Ao at he;split at he
 ·split at he
  ·rename_i hdst;split at he <;> simp only [Ps,Pv,reduceCtorEq] at he <;> obtain ⟨rfl,rfl⟩:=he;exact ⟨iD (hd _ hdst) _,eG h _ _⟩
  ·split at he
   ·rename_i x hx;injection he with he
    subst he;split at hx <;> try cases hx
    exact LA hN h hd hx
   ·split at he <;> try cases he
    rename_i hdst;split at he <;> simp only [Ps,Pv,reduceCtorEq] at he <;> obtain ⟨rfl,rfl⟩:=he;exact ⟨iD (hd _ hdst) _,eG h _ _⟩
 ·split at he <;> try cases he
  rename_i hdst;split at he <;> try cases he
  split at he <;> simp only [Ps,Pv,reduceCtorEq] at he <;> obtain ⟨rfl,rfl⟩:=he;exact ⟨iD (hd _ hdst) _,eG h _ _⟩
theorem uU {P:Program} {ss:Specs} {ops:Array Oper} (hN:Named L bad):∀ (os:List Oper) (S S':St) (ps:List Prop),Tidy bad S->(∀ o∈os,∀ d,o.dst=some d->L.contains d=true) ->
  run P ss ops os S=some (ps,S')->Fr L bad S S'/\Tidy bad S'
 | [],S,S',ps,h,_,he=>by
  simp only [run,Ps,Pv] at he;obtain ⟨_,rfl⟩:=he;exact ⟨Fr.refl _ _ _,h⟩
 | o::os,S,S',ps,h,hd,he=>by
  simp only [run] at he;split at he <;> try cases he
  rename_i ps1 S1 h1;split at he <;> simp only [Ps,Pv,reduceCtorEq] at he <;> obtain ⟨rfl,rfl⟩:=he;rename_i ps2 S2 h2;have k1:=Ag hN h (hd o (by simp)) h1;have k2:=uU hN os S1 S2 ps2 k1.2 (fun o' ho'=>hd o' (by simp [ho'])) h2;exact ⟨k1.1.trans k2.1,k2.2⟩
theorem gR {x:AV} (h:x.noGd=true):x.opn []=x:=by cases x <;> first | (cases h; done) | rfl
theorem fI (h:Tidy bad S):Fr L bad S S.clean/\Tidy bad S.clean :=
 ⟨⟨rfl,rfl,fun _ _ hst=>gR hst.2,fun _ _ _=>rfl,fun _ _ env h=>⟨env,h,fun _ _=>rfl⟩⟩,⟨h.lock,h.row,h.frame⟩⟩
end
inductive BF where
 | dat (T:Ty)
 | own (e:TypeId) (T:Ty)
 | mpc (d:Nat)
 | lcc (d:Nat)
def BF.den:BF->Type
 | .dat T=>T.den
 | .own _ T=>List T.den
 | .mpc _=>Unit
 | .lcc _=>Unit
def BF.size:BF->Nat
 | .dat T=>T.size
 | .own _ _=>1
 | .mpc _=>1
 | .lcc _=>1
def BF.maps:BF->List Nat
 | .mpc d=>[d]
 | .lcc d=>[d]
 | _=>[]
def mb:List BF->Type
 | []=>Unit
 | [f]=>f.den
 | f::g::fs=>f.den×mb (g::fs)
inductive Cr where
 | dat (s:Nat) (T:Ty)
 | own (s:Nat) (e:TypeId) (T:Ty)
 | box (d:Nat) (T:Ty)
 | boxS (d:Nat) (fs:List BF)
 | same (s s':Nat)
 | part (s s':Nat) (T:Ty)
 | map (d:Nat) (k:IntKind) (V:Ty)
 | iter (d:Nat) (k:IntKind) (V:Ty)
 | mapS (d:Nat) (k:IntKind) (V:Ty) (e:TypeId) (T:Ty)
def Cr.den:Cr->Type
 | .dat _ T=>T.den
 | .own _ _ T=>List T.den
 | .box _ T=>T.den
 | .boxS _ fs=>mb fs
 | .same _ _=>Unit
 | .part _ _ _=>Nat×Nat
 | .map _ _ V=>List (Int×V.den)
 | .iter _ _ V=>List (Int×V.den)
 | .mapS _ _ V _ T=>Int×List (Int×Option V.den)×List T.den
def dk:List Cr->Type
 | []=>Unit
 | [c]=>c.den
 | c::d::cs=>c.den×dk (d::cs)
def AV.rowAt (S:St) (e:TypeId) (T:Ty):AV->Option (List T.den×Option Nat)
 | .nils=>some ([],none)
 | .own d=>match S.lh d with
  | some (.row e' T' xs)=>if h:T'=T then (if Nat.beq e' e&&!S.lock d then some (h ▸ xs,some d) else none) else none
  | _=>none
 | _=>none
def Nl:Nat:=1000000000000000000000000000000
def Hn:Nat->Nat->Nat->Nat
 | 0,d,j=>d+1000000 * j+Nl
 | k+1,d,j=>bif Nat.beq (d % 1000000) 900000 then 1000000 * Hn k (d / 1000000) j+900000 else d+1000000 * j+Nl
def fu (d j:Nat):Nat:=Hn 8 d j
def Jo:Nat->Nat->Bool
 | 0,_=>false
 | k+1,n=>bif Nat.beq (n % 1000000) 900000 then Jo k (n / 1000000) else Nat.ble Nl n
def Am (n:Nat):Bool:=Jo 9 n
theorem yp:∀ (k n:Nat),Jo k n=true->Jo (k+1) n=true
 | 0,n,h=>by cases h
 | k+1,n,h=>by
  rw [Jo] at h |-;cases hb:Nat.beq (n % 1000000) 900000
  ·rw [hb] at h; exact h
  ·rw [hb] at h; exact yp k _ h
def AV.rowFar (S:St) (e:TypeId) (T:Ty) (nm:Nat) (a:AV):Option (List T.den×Option Nat):=if Am nm=true then a.rowAt S e T else none
theorem ld {S:St} {e:TypeId} {T:Ty} {nm:Nat} {a:AV} {y:List T.den×Option Nat} (h:a.rowFar S e T nm=some y):a.rowAt S e T=some y:=by
 unfold AV.rowFar at h;split at h
 ·exact h
 ·cases h
theorem tS {S:St} {e:TypeId} {T:Ty} {nm:Nat} {a:AV} {y:List T.den×Option Nat} (h:a.rowFar S e T nm=some y):Am nm=true:=by
 unfold AV.rowFar at h;split at h
 ·assumption
 ·cases h
def BF.get (S:St) (nm:Nat) (f:BF) (a:AV):Option (f.den×List (Nat×Option Nat)) :=
 match f with
 | .dat T=>(a.toTy false S.lh T).map fun x=>(x,[])
 | .own e T=>(a.rowFar S e T nm).map fun x=>(x.1,[(nm,x.2)])
 | .mpc d=>match a with
  | .mp d'=>if Nat.beq d' d then some ((),[]) else none
  | _=>none
 | .lcc d=>match a with
  | .loc d' off=>if Nat.beq d' d&&Nat.beq off 0 then some ((),[]) else none
  | _=>none
def BF.av (nm:Nat):(f:BF)->f.den->AV
 | .dat T,x=>T.av x
 | .own _ _,_=>.own nm
 | .mpc d,_=>.mp d
 | .lcc d,_=>.loc d 0
def BF.row (nm:Nat):(f:BF)->f.den->Nat->Option LE
 | .dat _,_,_=>none
 | .own e T,xs,n=>if Nat.beq n nm then some (.row e T xs) else none
 | .mpc _,_,_=>none
 | .lcc _,_,_=>none
def pS (S:St) (d:Nat):Nat->(fs:List BF)->AV->Option (mb fs×List (Nat×Option Nat))
 | _,[],_=>none
 | j,[f],a=>f.get S (fu d j) a
 | j,f::g::fs,a=>match f.get S (fu d j) (a.take f.size),pS S d (j+1) (g::fs) (a.drop f.size) with
  | some (x,r1),some (y,r2)=>some ((x,y),r1++r2)
  | _,_=>none
def Pk (d:Nat):Nat->(fs:List BF)->mb fs->AV
 | _,[],_=>.any
 | j,[f],x=>f.av (fu d j) x
 | j,f::g::fs,x=>(f.av (fu d j) x.1).app (Pk d (j+1) (g::fs) x.2)
def tT (d:Nat):Nat->(fs:List BF)->mb fs->Nat->Option LE
 | _,[],_,_=>none
 | j,[f],x,n=>f.row (fu d j) x n
 | j,f::g::fs,x,n=>match f.row (fu d j) x.1 n with
  | some e=>some e
  | none=>tT d (j+1) (g::fs) x.2 n
def Cr.get (S:St):(c:Cr)->Option (c.den×List (Nat×Option Nat))
 | .dat s T=>((S.env s).toTy false S.lh T).map fun x=>(x,[])
 | .own s e T=>((S.env s).rowAt S e T).map fun x=>(x.1,[(s,x.2)])
 | .box d T=>match S.lh d with
  | some (.cells c)=>(c.toTy false S.lh T).map fun x=>(x,[])
  | _=>none
 | .boxS d fs=>match S.lh d with
  | some (.cells c)=>pS S d 0 fs c
  | _=>none
 | .same s s'=>match S.env s,S.env s' with
  | .own d,.own d'=>if Nat.beq d d' then some ((),[]) else none
  | _,_=>none
 | .part s s' T=>match S.env s,S.env s' with
  | .osl d T' i n,.own d'=>if T'=T then (if Nat.beq d d' then some ((i,n),[]) else none) else none
  | _,_=>none
 | .map d k V=>match S.lh d with
  | some (.mapp k' V' m)=>if h:k'=k/\V'=V then some ((h.2 ▸ m:List (Int×V.den)),[]) else none
  | _=>none
 | .iter d k V=>match S.lh d with
  | some (.iter k' V' m _)=>if h:k'=k/\V'=V then some ((h.2 ▸ m:List (Int×V.den)),[]) else none
  | _=>none
 | .mapS d k V e T=>match S.lh d with
  | some (.mapo k' V' m x c)=>if h:k'=k/\V'=V then (c.rowFar S e T (fu d 0)).map fun r=>((x,(h.2 ▸ m:List (Int×Option V.den)),r.1),[(fu d 0,r.2)]) else none
  | _=>none
def jf (S:St):(cs:List Cr)->Option (dk cs×List (Nat×Option Nat))
 | []=>some ((),[])
 | [c]=>c.get S
 | c::d::cs=>match c.get S,jf S (d::cs) with
  | some (x,r1),some (y,r2)=>some ((x,y),r1++r2)
  | _,_=>none
def Cr.envOf (c:Cr) (x:c.den) (s:Nat):Option AV :=
 match c,x with
 | .dat s' T,x=>if Nat.beq s s' then some (T.av x) else none
 | .own s' _ _,_=>if Nat.beq s s' then some (.own s') else none
 | .same s1 s2,_=>if Nat.beq s s1 then some (.own s2) else none
 | .part s1 s2 T,x=>if Nat.beq s s1 then some (.osl s2 T x.1 x.2) else none
 | _,_=>none
def Cr.lhOf (c:Cr) (x:c.den) (d:Nat):Option LE :=
 match c,x with
 | .dat _ _,_=>none
 | .same _ _,_=>none
 | .part _ _ _,_=>none
 | .own s e T,xs=>if Nat.beq d s then some (.row e T xs) else none
 | .box d' T,x=>if Nat.beq d d' then some (.cells (T.av x)) else none
 | .map d' k V,m=>if Nat.beq d d' then some (.mapp k V m) else none
 | .iter d' k V,m=>if Nat.beq d d' then some (.iter k V m none) else none
 | .mapS d' k V e T,y=>if Nat.beq d d' then some (.mapo k V y.2.1 y.1 (.own (fu d' 0))) else if Nat.beq d (fu d' 0) then some (.row e T y.2.2) else none
 | .boxS d' fs,x=>if Nat.beq d d' then some (.cells (Pk d' 0 fs x)) else tT d' 0 fs x d
def envOf:(cs:List Cr)->dk cs->Nat->Option AV
 | [],_,_=>none
 | [c],x,s=>c.envOf x s
 | c::d::cs,x,s=>match c.envOf x.1 s with
  | some a=>some a
  | none=>envOf (d::cs) x.2 s
def lhOf:(cs:List Cr)->dk cs->Nat->Option LE
 | [],_,_=>none
 | [c],x,s=>c.lhOf x s
 | c::d::cs,x,s=>match c.lhOf x.1 s with
  | some a=>some a
  | none=>lhOf (d::cs) x.2 s
def Cr.boxName:Cr->List Nat
 | .box d _=>[d]
 | .boxS d _=>[d]
 | .map d _ _=>[d]
 | .iter d _ _=>[d]
 | .mapS d _ _ _ _=>[d]
 | _=>[]
def Cr.twin:Cr->Option Nat
 | .same _ s'=>some s'
 | .part _ s' _=>some s'
 | _=>none
def Cr.maps:Cr->List Nat
 | .boxS _ fs=>fs.flatMap BF.maps
 | _=>[]
def J9 (cs:List Cr):Bool:=cs.all fun c=>match c.twin with
 | some s'=>cs.any fun c'=>match c' with
  | .own s'' _ _=>Nat.beq s'' s'
  | _=>false
 | none=>true
def E8 (cs:List Cr):Bool:=J9 cs
def bD (L X:List Nat) (n:Nat):Bool:=L.contains (n % 1000000)||X.contains n||Am n
def bk (ren:List (Nat×Option Nat)):List Nat:=ren.flatMap fun x=>x.1::x.2.toList
def zz (ren:List (Nat×Option Nat)):List Nat:=ren.flatMap fun x=>x.2.toList
def lu:List Nat->Bool
 | []=>true
 | x::xs=>!xs.contains x&&lu xs
def bf (S:St) (L X:List Nat) (cs:List Cr) (x:dk cs):St :=
 { env:=fun s=>match envOf cs x s with
   | some a=>a
   | none=>bif L.contains s then .any else ((S.env s).scrub (bD L X)).opn []
   lh:=fun d=>match lhOf cs x d with
    | some e=>some e
    | none=>bif bD L X d then none else (S.lh d).map (LE.scrub (bD L X))
   n:=S.n
   lock:=fun d=>!bD L X d&&!(cs.flatMap Cr.boxName).contains d }
def F5 (S:St) (L X:List Nat) (cs:List Cr) (ren:List (Nat×Option Nat)):Bool :=
 (bk ren).all (bD L X)&&lu (zz ren)&&lu (ren.map (·.1)) &&
 (cs.flatMap Cr.boxName).all (fun d=>!bD L X d&&!S.lock d)&&(cs.flatMap Cr.maps).all (fun d=>!bD L X d)
section
variable {M:Nat->Prop} {p0:PH} {w0:World} {S:St} {tm:Array Value} {w:World} {p:PH} {β:Nat->Value}
def Dh (β:Nat->Value):Option Nat->Value
 | some d=>β d
 | none=>.slice none 0 0
def AU (β β':Nat->Value) (ren:List (Nat×Option Nat)):Prop:=∀ x∈ren,β' x.1=Dh β x.2
theorem iT (hS:SatB M p0 w0 S tm w p β) {e:TypeId} {T:Ty} {a:AV} {xs:List T.den} {src:Option Nat} (h:a.rowAt S e T=some (xs,src)) :
  (∀ v,a.one p β v->v=Dh β src)/\(∃ l,w.ownsRow 0 e T.size (Dh β src) xs.length l/\aM (T.holds p) xs l/\xs.length * T.bytes<=aF) /\
   (∀ d,src=some d->S.lh d=some (.row e T xs)/\S.lock d=false):=by
 cases a <;> simp only [AV.rowAt,reduceCtorEq] at h
 ·simp only [Ps,Pv] at h;obtain ⟨rfl,rfl⟩:=h;exact ⟨fun v hv=>hv,⟨[],Rp w 0 e T.size,rfl,by simp⟩,fun d hd=>by cases hd⟩
 ·rename_i d;split at h <;> try cases h
  rename_i e' T' ys hd;split at h <;> try cases h
  rename_i hT;subst hT;split at h <;> simp only [Ps,Pv,reduceCtorEq] at h <;> obtain ⟨rfl,rfl⟩:=h;rename_i hb;simp only [Px,PX] at hb;have:=Pw hb.1;subst this;exact ⟨fun v hv=>hv,hS.lhs d _ hd,fun d' hd'=>by injection hd' with hd'; subst hd'; exact ⟨hd,hb.2⟩⟩
theorem Nx {T:Ty} {x:T.den} {a:AV} {v:Value} {β':Nat->Value} (hS:SatB M p0 w0 S tm w p β) (h:a.toTy false S.lh T=some x) (ha:a.val p β tm v):(T.av x).val p β' tm v:=by
 have h1:=cP hS (rows:=false) h ha;simp only [PG,P5] at h1;exact AV.val_of_val1 (dG (tm:=tm) h1)
theorem G7 (hS:SatB M p0 w0 S tm w p β) {β':Nat->Value} {c:Cr} {x:c.den} {ren:List (Nat×Option Nat)} (h:c.get S=some (x,ren)) (hf:AU β β' ren) (hsm:∀ s' d,c.twin=some s'->S.env s'=.own d->β' s'=β d) {s:Nat} {a:AV} (he:c.envOf x s=some a) :
  a.val p β' tm (tm.getD s undef):=by
 cases c with
 | dat s' T =>
  obtain ⟨y,hy,h0⟩:=Py.1 h;injection h0 with h0 h00
  subst h0;subst h00;simp only [Cr.envOf] at he;split at he <;> simp only [Ps,reduceCtorEq] at he;rename_i hs;have:=Pw hs;subst this;subst he;exact Nx hS hy (hS.env s)
 | own s' e T =>
  obtain ⟨y,hy,h0⟩:=Py.1 h;injection h0 with h0 h00
  subst h0;subst h00;simp only [Cr.envOf] at he;split at he <;> simp only [Ps,reduceCtorEq] at he;rename_i hs;have:=Pw hs;subst this;subst he;have h1:=(iT hS (xs:=y.1) (src:=y.2) hy).1;have h2:=hf (s,y.2) (by simp);have h3:=hS.env s;show tm.getD s undef=β' s;rw [h2];apply h1
  have hl:∀ (a:AV) (v:Value),a.rowAt S e T=some y->a.val p β tm v->a.one p β v:=by
   intro a v ha hv;cases a <;> first | exact hv | (simp [AV.rowAt] at ha; done)
  exact hl _ _ hy h3
 | box d T=>simp [Cr.envOf] at he
 | boxS d fs=>simp [Cr.envOf] at he
 | map d k V=>simp [Cr.envOf] at he
 | iter d k V=>simp [Cr.envOf] at he
 | mapS d k V e T=>simp [Cr.envOf] at he
 | same s1 s2 =>
  simp only [Cr.envOf] at he;split at he <;> simp only [Ps,reduceCtorEq] at he;rename_i hs;have:=Pw hs;subst this;subst he;simp only [Cr.get] at h;split at h <;> try cases h
  rename_i d d' h1 h2;split at h <;> try cases h
  rename_i hd;have:=Pw hd;subst this;have h3:=hS.env s;rw [h1] at h3;show tm.getD s undef=β' s2;rw [hsm _ _ rfl h2];exact h3
 | part s1 s2 T =>
  simp only [Cr.envOf] at he;split at he <;> simp only [Ps,reduceCtorEq] at he;rename_i hs;have:=Pw hs;subst this;subst he;simp only [Cr.get] at h;split at h <;> try cases h
  rename_i d T' i n d' h1 h2;split at h <;> try cases h
  rename_i hT;subst hT;split at h <;> simp only [Ps,reduceCtorEq] at h;rename_i hd;have:=Pw hd;subst this;injection h with h h0
  subst h;subst h0;have h3:=hS.env s;rw [h1] at h3;have h4:=hsm _ _ rfl h2;have h3:(∃ b m c c',β d=.slice (some ⟨b,0,none⟩) m c/\tm.getD s undef=.slice (some ⟨b,i * T'.size,none⟩) n c')\/(n=0/\∃ A c,tm.getD s undef=.slice A 0 c):=h3;show (∃ b m c c',β' s2=.slice (some ⟨b,0,none⟩) m c/\tm.getD s undef=.slice (some ⟨b,i * T'.size,none⟩) n c')\/(n=0/\∃ A c,tm.getD s undef=.slice A 0 c);rw [h4];exact h3
def DW (S:St) (β β':Nat->Value) (ren:List (Nat×Option Nat)) (boxes:List Nat) (d:Nat):Prop :=
 ∀ b,b8 (β' d)=some b->∃ d0 e0,S.lh d0=some e0/\e0.live=true/\b8 (β d0)=some b/\((d0=d/\d∈boxes)\/(d,some d0)∈ren)
theorem LT:∀ (k:Nat) (a:AV),a.len<=k->0<k->a.drop k=.any:=by
 intro k
 induction k with
 | zero=>intro a _ h; omega
 | succ k ih =>
  intro a hle _;cases a <;> simp only [AV.drop];rename_i x y;simp only [AV.len] at hle;rcases Nat.eq_zero_or_pos k with hk | hk
  ·subst hk;cases y <;> simp only [AV.len] at hle <;> omega
  ·exact ih y (by omega) hk
theorem BF.size_pos (f:BF):0<f.size:=by
 cases f with
 | dat T=>exact Ty.size_pos T
 | own e T=>simp [BF.size]
 | mpc d=>simp [BF.size]
 | lcc d=>simp [BF.size]
theorem BF.get_any (S:St) (nm:Nat) (f:BF):f.get S nm .any=none:=by
 cases f with
 | dat T=>simp only [BF.get,kY]; rfl
 | own e T=>simp only [BF.get,AV.rowFar,AV.rowAt]; split <;> rfl
 | mpc d=>rfl
 | lcc d=>rfl
theorem Lw (S:St) (d:Nat):∀ (fs:List BF) (j:Nat),pS S d j fs .any=none
 | [],_=>rfl
 | [f],j=>BF.get_any S _ f
 | f::g::fs,j=>by simp only [pS,Bn,BF.get_any]
theorem BF.get_cells (hS:SatB M p0 w0 S tm w p β) {β':Nat->Value} {f:BF} {nm:Nat} {a:AV} {x:f.den} {ren:List (Nat×Option Nat)} (h:f.get S nm a=some (x,ren)) (hf:AU β β' ren) (hm:∀ d∈f.maps,β' d=β d) {cs:List Value} (hc:a.cells p β cs) :
  (f.av nm x).cells p β' cs:=by
 cases f with
 | dat T =>
  obtain ⟨y,hy,h0⟩:=Py.1 h;injection h0 with h0 h00
  subst h0;subst h00;have h5:=be hS (rows:=false) T _ y _ hy hc;simp only [PG,P5] at h5;exact Ty.av_cells T y _ h5
 | own e T =>
  obtain ⟨y,hy,h0⟩:=Py.1 h;injection h0 with h0 h00
  subst h0;subst h00;have hy:=ld hy;obtain ⟨h1,_,_⟩:=iT hS (xs:=y.1) (src:=y.2) hy;have h4:=hf (nm,y.2) (by simp);simp only at h4
  have hl:∃ v,cs=[v]/\a.one p β v:=by
   cases a <;> (first | (simp [AV.rowAt] at hy; done) | exact (AV.cells_leaf _ (by intro x y e; cases e) _).1 hc)
  obtain ⟨v,rfl,hone⟩:=hl;exact AV.one_cells (p:=p) (a:=.own nm) (by show v=β' nm; rw [h4]; exact h1 v hone)
 | mpc d =>
  simp only [BF.get] at h;split at h <;> try cases h
  rename_i d';split at h <;> simp only [Ps,reduceCtorEq] at h;rename_i hd;have:=Pw hd;subst this;obtain ⟨v,rfl,hone⟩:∃ v,cs=[v]/\(AV.mp d').one p β v:=(AV.cells_leaf _ (by intro x y e; cases e) _).1 hc;exact AV.one_cells (p:=p) (a:=.mp d') (by show v=β' d'; rw [hm d' (by simp [BF.maps])]; exact hone)
 | lcc d =>
  simp only [BF.get] at h;split at h <;> try cases h
  rename_i d' off;split at h <;> simp only [Ps,reduceCtorEq] at h;rename_i hd;simp only [Px] at hd;have h1:=Pw hd.1;have h2:=Pw hd.2;subst h1 h2;obtain ⟨v,rfl,hone⟩:∃ v,cs=[v]/\(AV.loc d' 0).one p β v:=(AV.cells_leaf _ (by intro x y e; cases e) _).1 hc;obtain ⟨b,e1,e2⟩:=hone;exact AV.one_cells (p:=p) (a:=.loc d' 0) ⟨b,by rw [hm d' (by simp [BF.maps])]; exact e1,e2⟩
theorem uS (hS:SatB M p0 w0 S tm w p β) {β':Nat->Value} {d:Nat}:∀ (fs:List BF) (j:Nat) (a:AV) (x:mb fs) (ren:List (Nat×Option Nat)) (cs:List Value),pS S d j fs a=some (x,ren)->AU β β' ren->(∀ d∈fs.flatMap BF.maps,β' d=β d)->a.cells p β cs ->
  (Pk d j fs x).cells p β' cs
 | [],_,_,_,_,_,h,_,_,_=>by cases h
 | [f],j,a,x,ren,cs,h,hf,hm,hc=>BF.get_cells hS h hf (fun d hd=>hm d (by simpa using hd)) hc
 | f::g::fs,j,a,x,ren,cs,h,hf,hm,hc=>by
  unfold pS at h;split at h <;> simp only [Ps,reduceCtorEq] at h;rename_i y r1 z r2 h1 h2;injection h with ha hb
  subst ha;subst hb;have hpos:=BF.size_pos f;have hl:=AV.len_cells a cs hc
  have key:f.size<cs.length:=by
   rcases PU f.size cs.length with hlt | hge
   ·exact hlt
   ·exfalso;rw [LT f.size a (by omega) hpos,Lw] at h2;cases h2
  have k1:=BF.get_cells hS h1 (fun z hz=>hf z (PE _ hz)) (fun d hd=>hm d (by rw [Ql]; exact PE _ hd)) (AV.cells_take _ a cs hc hpos (by omega));have k2:=uS hS (g::fs) (j+1) _ z r2 _ h2 (fun z hz=>hf z (PK _ hz)) (fun d hd=>hm d (by rw [Ql]; exact PK _ hd)) (AV.cells_drop _ a cs hc key);have:=AV.cells_app _ _ _ _ k1 k2
  rwa [Qr] at this
theorem BF.get_row (hS:SatB M p0 w0 S tm w p β) {β':Nat->Value} {f:BF} {nm:Nat} {a:AV} {x:f.den} {ren ren0:List (Nat×Option Nat)} {boxes:List Nat} (h:f.get S nm a=some (x,ren)) (hf:AU β β' ren) (hr:∀ z∈ren,z∈ren0) {n:Nat} {e:LE}
  (he:f.row nm x n=some e):e.sat p β' w n/\DW S β β' ren0 boxes n/\n∈ren.map (·.1):=by
 cases f with
 | dat T=>cases he
 | mpc d=>cases he
 | lcc d=>cases he
 | own t T =>
  obtain ⟨y,hy,h0⟩:=Py.1 h;injection h0 with h0 h00
  subst h0;subst h00;have hy:=ld hy;obtain ⟨_,h2,h3⟩:=iT hS (xs:=y.1) (src:=y.2) hy;have h4:=hf (nm,y.2) (by simp);simp only at h4;simp only [BF.row] at he;split at he <;> simp only [Ps,reduceCtorEq] at he;rename_i hs;have:=Pw hs;subst this;subst he;refine ⟨by simpa only [LE.sat,h4] using h2,fun b hb=>?_,by simp⟩;rw [h4] at hb;cases hsrc:y.2 with
  | none=>rw [hsrc] at hb; cases hb
  | some d0 =>
   rw [hsrc] at hb;exact ⟨d0,_,(h3 d0 hsrc).1,rfl,hb,.inr (hr _ (by rw [<- hsrc]; simp))⟩
theorem Dj (hS:SatB M p0 w0 S tm w p β) {β':Nat->Value} {d:Nat} {ren0:List (Nat×Option Nat)} {boxes:List Nat}:∀ (fs:List BF) (j:Nat) (a:AV) (x:mb fs) (ren:List (Nat×Option Nat)),pS S d j fs a=some (x,ren)->AU β β' ren->(∀ z∈ren,z∈ren0) ->
  ∀ {n:Nat} {e:LE},tT d j fs x n=some e->e.sat p β' w n/\DW S β β' ren0 boxes n/\n∈ren.map (·.1)
 | [],_,_,_,_,h,_,_,_,_,_=>by cases h
 | [f],j,a,x,ren,h,hf,hr,n,e,he=>BF.get_row hS h hf hr he
 | f::g::fs,j,a,x,ren,h,hf,hr,n,e,he=>by
  unfold pS at h;split at h <;> simp only [Ps,reduceCtorEq] at h;rename_i y r1 z r2 h1 h2;injection h with ha hb
  subst ha;subst hb;simp only [tT] at he;split at he
  ·rename_i e' he';injection he with he
   subst he;obtain ⟨k1,k2,k3⟩:=BF.get_row (boxes:=boxes) hS h1 (fun z hz=>hf z (PE _ hz)) (fun z hz=>hr z (PE _ hz)) he';exact ⟨k1,k2,by rw [Qn]; exact PE _ k3⟩
  ·obtain ⟨k1,k2,k3⟩:=Dj (boxes:=boxes) hS (g::fs) (j+1) _ z r2 h2 (fun z hz=>hf z (PK _ hz)) (fun z hz=>hr z (PK _ hz)) he;exact ⟨k1,k2,by rw [Qn]; exact PK _ k3⟩
theorem vD {S:St} {d:Nat} {fs:List BF} {x:mb fs} {ren:List (Nat×Option Nat)} (h:(Cr.boxS d fs).get S=some (x,ren)):∃ c,S.lh d=some (.cells c)/\pS S d 0 fs c=some (x,ren):=by
 have h':(match S.lh d with
  | some (.cells c)=>pS S d 0 fs c
  | _=>none)=some (x,ren):=h
 split at h'
 ·rename_i c hc;exact ⟨c,hc,h'⟩
 ·cases h'
theorem Lv (hS:SatB M p0 w0 S tm w p β) {β':Nat->Value} {c:Cr} {x:c.den} {ren:List (Nat×Option Nat)} (h:c.get S=some (x,ren)) (hf:AU β β' ren) (hbox:∀ d∈c.boxName,β' d=β d) (hmp:∀ d∈c.maps,β' d=β d)
  {d:Nat} {e:LE} (he:c.lhOf x d=some e):e.sat p β' w d/\DW S β β' ren c.boxName d/\(∀ t T xs,e=.row t T xs->d∈ren.map (·.1)):=by
 have own_of:∀ {nm:Nat} {src:Option Nat} {boxes:List Nat} {e:TypeId} {T:Ty} {xs:List T.den},β' nm=Dh β src->(nm,src)∈ren->(∀ d,src=some d->S.lh d=some (.row e T xs)/\S.lock d=false)->DW S β β' ren boxes nm:=by
  intro nm src boxes e T xs h1 h2 h3 b hb;rw [h1] at hb;cases src with
  | none=>cases hb
  | some d0=>exact ⟨d0,_,(h3 d0 rfl).1,rfl,hb,.inr h2⟩
 cases c with
 | dat s' T=>simp [Cr.lhOf] at he
 | same _ _=>simp [Cr.lhOf] at he
 | part _ _ _=>simp [Cr.lhOf] at he
 | own s' t T =>
  obtain ⟨y,hy,h0⟩:=Py.1 h;injection h0 with h0 h00
  subst h0;subst h00;simp only [Cr.lhOf] at he;split at he <;> simp only [Ps,reduceCtorEq] at he;rename_i hs;have:=Pw hs;subst this;subst he;obtain ⟨_,h2,h3⟩:=iT hS (xs:=y.1) (src:=y.2) hy;have h4:=hf (d,y.2) (by simp);simp only at h4;refine ⟨by simpa only [LE.sat,h4] using h2,own_of h4 (by simp) h3,fun _ _ _ _=>by simp⟩
 | box d' T =>
  unfold Cr.get at h;simp only at h;split at h
  case h_2=>cases h
  rename_i c' hc;obtain ⟨y,hy,h0⟩:=Py.1 h;injection h0 with h0 h00
  subst h0;subst h00;simp only [Cr.lhOf] at he;split at he <;> simp only [Ps,reduceCtorEq] at he;rename_i hs;have:=Pw hs;subst this;subst he;have hb:=hbox d (by simp [Cr.boxName]);obtain ⟨b,cs,ty,e1,e2,e3⟩:=hS.lhs d _ hc;have h5:=be hS (rows:=false) T _ y _ hy e3;simp only [PG,P5] at h5;refine ⟨⟨b,cs,ty,hb.trans e1,e2,Ty.av_cells T y _ h5⟩,fun b' hb'=>⟨d,_,hc,rfl,by rw [<- hb]; exact hb',.inl ⟨rfl,by simp [Cr.boxName]⟩⟩,fun _ _ _ h=>by cases h⟩
 | map d' k V =>
  unfold Cr.get at h;simp only at h;split at h <;> try cases h
  rename_i k' V' m hc;split at h <;> try cases h
  rename_i hT;obtain ⟨rfl,rfl⟩:=hT;simp only [Cr.lhOf] at he;split at he <;> simp only [Ps,reduceCtorEq] at he;rename_i hs;have:=Pw hs;subst this;subst he;have hb:=hbox d (by simp [Cr.boxName]);obtain ⟨r,es,clock,e1,e2⟩:=hS.lhs d _ hc;refine ⟨⟨r,es,clock,hb.trans e1,e2⟩,fun b' hb'=>⟨d,_,hc,rfl,by rw [<- hb]; exact hb',.inl ⟨rfl,by simp [Cr.boxName]⟩⟩,fun _ _ _ h=>by cases h⟩
 | iter d' k V =>
  unfold Cr.get at h;simp only at h;split at h <;> try cases h
  rename_i k' V' m cur hc;split at h <;> try cases h
  rename_i hT;obtain ⟨rfl,rfl⟩:=hT;simp only [Cr.lhOf] at he;split at he <;> simp only [Ps,reduceCtorEq] at he;rename_i hs;have:=Pw hs;subst this;subst he;have hb:=hbox d (by simp [Cr.boxName]);obtain ⟨r,bm,since,seen,c0,es,clock,e1,e2,e3,e4,e5,e6,e7,e8,_⟩:=hS.lhs d _ hc;refine ⟨⟨r,bm,since,seen,c0,es,clock,hb.trans e1,e2,e3,e4,e5,e6,e7,e8,fun x hx=>by cases hx⟩,fun b' hb'=>⟨d,_,hc,rfl,by rw [<- hb]; exact hb',.inl ⟨rfl,by simp [Cr.boxName]⟩⟩,fun _ _ _ h=>by cases h⟩
 | mapS d' k V t T =>
  unfold Cr.get at h;simp only at h;split at h <;> try cases h
  rename_i k' V' m x0 c hc;split at h <;> try cases h
  rename_i hT;obtain ⟨rfl,rfl⟩:=hT;obtain ⟨y,hy,h0⟩:=Py.1 h;injection h0 with h0 h00
  subst h0;subst h00;have hy:=ld hy;obtain ⟨h1,h2,h3⟩:=iT hS (xs:=y.1) (src:=y.2) hy;have h4:=hf (fu d' 0,y.2) (by simp);simp only at h4;simp only [Cr.lhOf] at he;split at he
  ·rename_i hs;have:=Pw hs;subst this;injection he with he
   subst he;have hb:=hbox d (by simp [Cr.boxName]);obtain ⟨r,es,clock,e1,e2,e3,e4,e5⟩:=hS.lhs d _ hc;refine ⟨⟨r,es,clock,hb.trans e1,e2,e3,e4,cf (fun o v hv=>?_) _ _ e5⟩,fun b' hb'=>⟨d,_,hc,rfl,by rw [<- hb]; exact hb',.inl ⟨rfl,by simp [Cr.boxName]⟩⟩,fun _ _ _ h=>by cases h⟩;cases o with
   | some z=>exact hv
   | none =>
    show v=β' (fu d 0);rw [h4];exact h1 v hv
  ·split at he <;> simp only [Ps,reduceCtorEq] at he;rename_i hs;have:=Pw hs;subst this;subst he;exact ⟨by simpa only [LE.sat,h4] using h2,own_of h4 (by simp) h3,fun _ _ _ _=>by simp⟩
 | boxS d' fs =>
  have hx:=vD h;obtain ⟨c',hc,h⟩:=hx;have hb:=hbox d' (by simp [Cr.boxName]);simp only [Cr.lhOf] at he;split at he
  ·simp only [Ps] at he;rename_i hs;have:=Pw hs;subst this;subst he;obtain ⟨b,cs,ty,e1,e2,e3⟩:=hS.lhs d _ hc;exact ⟨⟨b,cs,ty,hb.trans e1,e2,uS hS fs 0 c' x ren _ h hf hmp e3⟩,fun b' hb'=>⟨d,_,hc,rfl,by rw [<- hb]; exact hb',.inl ⟨rfl,by simp [Cr.boxName]⟩⟩,fun _ _ _ h=>by cases h⟩
  ·obtain ⟨k1,k2,k3⟩:=Dj hS fs 0 c' x ren h hf (fun _ h=>h) he;exact ⟨k1,k2,fun _ _ _ _=>k3⟩
theorem Di (hS:SatB M p0 w0 S tm w p β) {β':Nat->Value}:∀ (cs:List Cr) (x:dk cs) (ren:List (Nat×Option Nat)),jf S cs=some (x,ren)->AU β β' ren->(∀ c s' d,c∈cs->c.twin=some s'->S.env s'=.own d->β' s'=β d)->∀ {s:Nat} {a:AV},envOf cs x s=some a ->
  a.val p β' tm (tm.getD s undef)
 | [],_,_,_,_,_,_,_,he=>by cases he
 | [c],x,ren,h,hf,hsm,_,_,he=>G7 hS h hf (fun s' d e=>hsm _ s' d (by simp) e) he
 | c::d::cs,x,ren,h,hf,hsm,s,a,he=>by
  unfold jf at h;split at h <;> try cases h
  rename_i x1 r1 y r2 h1 h2;simp only [envOf] at he;split at he
  ·rename_i a' ha;injection he with he
   subst he;exact G7 hS h1 (fun z hz=>hf z (PE _ hz)) (fun s' d e=>hsm _ s' d (by simp) e) ha
  ·exact Di hS (d::cs) y r2 h2 (fun z hz=>hf z (PK _ hz)) (fun c s' d hm=>hsm c s' d (P1 _ hm)) he
theorem G6 (hS:SatB M p0 w0 S tm w p β) {β':Nat->Value}:∀ (cs:List Cr) (x:dk cs) (ren:List (Nat×Option Nat)),jf S cs=some (x,ren)->AU β β' ren->(∀ d∈cs.flatMap Cr.boxName,β' d=β d)->(∀ d∈cs.flatMap Cr.maps,β' d=β d) ->
  ∀ {d:Nat} {e:LE},lhOf cs x d=some e->e.sat p β' w d/\DW S β β' ren (cs.flatMap Cr.boxName) d/\(∀ t T xs,e=.row t T xs->d∈ren.map (·.1))
 | [],_,_,_,_,_,_,_,_,he=>by cases he
 | [c],x,ren,h,hf,hb,hmp,d,e,he=>by
  obtain ⟨h1,h2,h3⟩:=Lv hS h hf (fun d hd=>hb d (by simpa using hd)) (fun d hd=>hmp d (by simpa using hd)) he;refine ⟨h1,fun b hb'=>?_,h3⟩;obtain ⟨d0,e0,k1,k2,k3,k4⟩:=h2 b hb';exact ⟨d0,e0,k1,k2,k3,k4.imp (fun k=>⟨k.1,by simpa using k.2⟩) id⟩
 | c::d'::cs,x,ren,h,hf,hb,hmp,d,e,he=>by
  unfold jf at h;split at h <;> try cases h
  rename_i x1 r1 y r2 h1 h2;simp only [lhOf] at he;split at he
  ·rename_i a' ha;injection he with he
   subst he;obtain ⟨k1,k2,k3⟩:=Lv hS h1 (fun z hz=>hf z (PE _ hz)) (fun d hd=>hb d (by simp only [Ql]; exact PE _ hd)) (fun d hd=>hmp d (by simp only [Ql]; exact PE _ hd)) ha;refine ⟨k1,fun b hb'=>?_,fun t T xs e=>by simp only [Qn]; exact PE _ (k3 t T xs e)⟩;obtain ⟨d0,e0,q1,q2,q3,q4⟩:=k2 b hb';exact ⟨d0,e0,q1,q2,q3,q4.imp (fun k=>⟨k.1,by simp only [Ql]; exact PE _ k.2⟩) (fun k=>PE _ k)⟩
  ·obtain ⟨k1,k2,k3⟩:=G6 hS (d'::cs) y r2 h2 (fun z hz=>hf z (PK _ hz)) (fun d hd=>hb d (by rw [Ql]; exact PK _ hd)) (fun d hd=>hmp d (by rw [Ql]; exact PK _ hd)) he;refine ⟨k1,fun b hb'=>?_,fun t T xs e=>by simp only [Qn]; exact PK _ (k3 t T xs e)⟩;obtain ⟨d0,e0,q1,q2,q3,q4⟩:=k2 b hb';exact ⟨d0,e0,q1,q2,q3,q4.imp (fun k=>⟨k.1,by rw [Ql]; exact PK _ k.2⟩) (fun k=>PK _ k)⟩
end
section
variable {M:Nat->Prop} {p0:PH} {w0:World} {S:St} {tm:Array Value} {w:World} {p:PH} {β:Nat->Value}
def fi (β:Nat->Value):List (Nat×Option Nat)->Nat->Value
 | [],n=>β n
 | (k,src)::r,n=>if n=k then Dh β src else fi β r n
theorem io:∀ {l:List Nat},lu l=true->l.Nodup
 | [],_=>Sh
 | x::xs,h=>by
  simp only [lu,Px,PX] at h;refine Q9.2 ⟨fun hm=>?_,io h.2⟩;have:=PY.2 hm;rw [h.1] at this;cases this
theorem nJ:∀ (ren:List (Nat×Option Nat)),(ren.map (·.1)).Nodup->AU β (fi β ren) ren
 | [],_=>by intro x hx; cases hx
 | (k,src)::r,h=>by
  simp only [Qf,Q9] at h;intro x hx;rcases PD.1 hx with rfl | hx
  ·simp [fi]
  ·have hne:x.1≠k:=by
    intro e;exact h.1 (P3.2 ⟨x,hx,e⟩)
   simp only [fi,hne,P5];exact nJ r h.2 x hx
theorem mL:∀ (ren:List (Nat×Option Nat)) (n:Nat),(∀ x∈ren,x.1≠n)->fi β ren n=β n
 | [],_,_=>rfl
 | (k,src)::r,n,h=>by
  have h1:=h (k,src) (by simp);simp only [fi,Ne.symm h1,P5];exact mL r n (fun x hx=>h x (by simp [hx]))
theorem fW {ren:List (Nat×Option Nat)} {x:Nat×Option Nat} (h:x∈ren):x.1∈bk ren/\∀ d,x.2=some d->d∈bk ren:=by
 unfold bk;refine ⟨Ri.2 ⟨x,h,by simp⟩,fun d hd=>Ri.2 ⟨x,h,by simp [hd]⟩⟩
theorem rt:∀ (ren:List (Nat×Option Nat)),(zz ren).Nodup->∀ {d d' d0:Nat},(d,some d0)∈ren->(d',some d0)∈ren->d=d'
 | [],_,_,_,_,h,_=>by cases h
 | (k,src)::r,hn,d,d',d0,h,h'=>by
  simp only [zz,Ql] at hn;have hn':=RS.1 hn;have mem:∀ {d},(d,some d0)∈r->d0∈r.flatMap (fun x=>x.2.toList):=fun hm=>Ri.2 ⟨_,hm,by simp⟩
  rcases PD.1 h with e | h <;> rcases PD.1 h' with e' | h'
  ·rw [Pv] at e e'; rw [e.1,e'.1]
  ·rw [Pv] at e;exact absurd rfl (hn'.2.2 d0 (by rw [<- e.2]; simp) d0 (mem h'))
  ·rw [Pv] at e';exact absurd rfl (hn'.2.2 d0 (by rw [<- e'.2]; simp) d0 (mem h))
  ·exact rt r hn'.2.1 h h'
theorem Lu:∀ (cs:List Cr) (x:dk cs) (ren:List (Nat×Option Nat)),jf S cs=some (x,ren)->∀ s e T d,Cr.own s e T∈cs->S.env s=.own d->(s,some d)∈ren:=by
 have one:∀ (c:Cr) (x:c.den) (ren:List (Nat×Option Nat)),c.get S=some (x,ren)->∀ s e T d,c=.own s e T->S.env s=.own d->(s,some d)∈ren:=by
  intro c x ren h s e T d hc hd;subst hc;obtain ⟨y,hy,h0⟩:=Py.1 h;injection h0 with _ h00
  subst h00;rw [hd] at hy;simp only [AV.rowAt] at hy;split at hy <;> try cases hy
  split at hy <;> try cases hy
  split at hy <;> simp only [Ps,reduceCtorEq] at hy;subst hy;simp
 intro cs
 induction cs with
 | nil=>intro x ren _ s e T d hm; cases hm
 | cons c cs ih =>
  intro x ren h s e T d hm hd;cases cs with
  | nil =>
   simp only [PB] at hm;exact one c x ren h s e T d hm.symm hd
  | cons c' cs =>
   unfold jf at h;split at h <;> try cases h
   rename_i x1 r1 y r2 h1 h2;rcases PD.1 hm with hm | hm
   ·exact PE _ (one c x1 r1 h1 s e T d hm.symm hd)
   ·exact PK _ (ih y r2 h2 s e T d hm hd)
theorem zI {L X:List Nat} {cs:List Cr} {x:dk cs} {ren:List (Nat×Option Nat)} (hS:SatB M p0 w0 S tm w p β) (hg:jf S cs=some (x,ren)) (hc:F5 S L X cs ren=true) (hsi:E8 cs=true) :
  SatB M p0 w0 (bf S L X cs x) tm w p (fi β ren):=by
 simp only [F5,Px] at hc;obtain ⟨⟨⟨⟨hnames,hsrc⟩,hkeys⟩,hboxes⟩,hmi⟩:=hc;have hsrc:=io hsrc;have hfits:=nJ (β:=β) ren (io hkeys);have hbad:∀ n∈bk ren,bD L X n=true:=fun n hn=>PA.1 hnames n hn
 have hβ:∀ n,bD L X n=false->fi β ren n=β n:=fun n hn=>mL ren n (fun y hy e=>by
  have:=hbad _ (fW hy).1;rw [e,hn] at this;cases this)
 have hbx:∀ d∈cs.flatMap Cr.boxName,bD L X d=false/\S.lock d=false:=fun d hd=>by
  have:=PA.1 hboxes d hd;simpa using this
 have hboxβ:∀ d∈cs.flatMap Cr.boxName,fi β ren d=β d:=fun d hd=>hβ d (hbx d hd).1
 have htw:J9 cs=true:=hsi;have hmapβ:∀ d∈cs.flatMap Cr.maps,fi β ren d=β d:=fun d hd=>hβ d (by simpa using PA.1 hmi d hd)
 have hsame:∀ c s' d,c∈cs->c.twin=some s'->S.env s'=.own d->fi β ren s'=β d:=fun c s' d hm ht hd=>by
  have h1:=PA.1 htw _ hm;simp only [ht] at h1;obtain ⟨c',hc',h2⟩:=Qt.1 h1;cases c' <;> simp only [PG] at h2;rename_i s'' e T;have h3:=Pw h2;subst h3;exact hfits _ (Lu cs x ren hg _ _ _ d hc' hd)
 have genv:=fun {s:Nat} {a:AV}=>Di hS cs x ren hg hfits hsame (s:=s) (a:=a)
 have glh:=fun {d:Nat} {e:LE}=>G6 hS cs x ren hg hfits hboxβ hmapβ (d:=d) (e:=e)
 have owner:∀ d e b,(bf S L X cs x).lh d=some e->e.live=true->b8 (fi β ren d)=some b->∃ d0 e0,S.lh d0=some e0/\e0.live=true/\b8 (β d0)=some b/\((d0=d/\bD L X d=false)\/(d,some d0)∈ren):=by
  intro d e b hd hl hb;simp only [bf] at hd;split at hd
  ·rename_i e' he;injection hd with hd
   subst hd;obtain ⟨d0,e0,k1,k2,k3,k4⟩:=(glh he).2.1 b hb;exact ⟨d0,e0,k1,k2,k3,k4.imp (fun k=>⟨k.1,(hbx d k.2).1⟩) id⟩
  ·cases hbd:bD L X d
   ·rw [hbd] at hd;simp only [PF,Py] at hd;obtain ⟨e0,h1,rfl⟩:=hd;rw [LE.scrub_live] at hl;rw [hβ d hbd] at hb;exact ⟨d,e0,h1,hl,hb,.inl ⟨rfl,rfl⟩⟩
   ·rw [hbd] at hd; cases hd
 refine ⟨hS.keep,hS.agr,hS.old,hS.size,fun d e hd=>?_,fun d e b hd hl hb=>?_,fun d d' e e' b hd hl hd' hl' hb hb'=>?_,fun s=>?_⟩
 ·simp only [bf] at hd;split at hd
  ·rename_i e' he;injection hd with hd
   subst hd;exact (glh he).1
  ·cases hbd:bD L X d
   ·rw [hbd] at hd;simp only [PF,Py] at hd;obtain ⟨e0,h1,rfl⟩:=hd;exact LE.sat_scrub hβ d hbd e0 (hS.lhs d e0 h1)
   ·rw [hbd] at hd; cases hd
 ·obtain ⟨d0,e0,k1,k2,k3,_⟩:=owner d e b hd hl hb;exact hS.owns d0 e0 b k1 k2 k3
 ·obtain ⟨d0,e0,k1,k2,k3,k4⟩:=owner d e b hd hl hb;obtain ⟨d1,e1,q1,q2,q3,q4⟩:=owner d' e' b hd' hl' hb';have h01:=hS.inj d0 d1 e0 e1 b k1 k2 q1 q2 k3 q3;subst h01;rcases k4 with ⟨rfl,h1⟩ | h1 <;> rcases q4 with ⟨h3,h2⟩ | h2
  ·exact h3
  ·have:=hbad _ ((fW h2).2 _ rfl); rw [h1] at this; cases this
  ·subst h3;have:=hbad _ ((fW h1).2 _ rfl); rw [h2] at this; cases this
  ·exact rt ren hsrc h1 h2
 ·simp only [bf];split
  ·rename_i a ha;exact genv ha
  ·cases hL:L.contains s
   ·simp only [PF];exact cZ (aN _) _ _ (AV.val_scrub hβ _ _ (hS.env s))
   ·trivial
theorem tM (bad:Nat->Bool):∀ (x:AV),(x.scrub bad).scrub bad=x.scrub bad:=by
 intro x
 induction x with
 | own d=>simp only [AV.scrub]; cases h:bad d <;> simp [AV.scrub,h]
 | loc d off=>simp only [AV.scrub]; cases h:bad d <;> simp [AV.scrub,h]
 | el d T i off=>simp only [AV.scrub]; cases h:bad d <;> simp [AV.scrub,h]
 | mp d=>simp only [AV.scrub]; cases h:bad d <;> simp [AV.scrub,h]
 | osl d T i n=>simp only [AV.scrub]; cases h:bad d <;> simp [AV.scrub,h]
 | psl d i n=>simp only [AV.scrub]; cases h:bad d <;> simp [AV.scrub,h]
 | fn f c1 c2 =>
  simp only [AV.scrub];cases h:(c1.any fun x=>bad x.1)||(c2.any fun x=>bad x.1)
  ·simp only [PF,AV.scrub,h]
  ·rfl
 | pair a b iha ihb=>simp only [AV.scrub,iha,ihb]
 | tup a b iha ihb=>simp only [AV.scrub,iha,ihb]
 | gd g w a iha=>simp only [AV.scrub,iha]
 | _=>rfl
theorem gm (bad:Nat->Bool) (e:LE):(e.scrub bad).scrub bad=e.scrub bad:=by
 cases e <;> simp [LE.scrub,tM]
theorem nj (bad:Nat->Bool) (x:AV):AT bad ((x.scrub bad).opn []):=by
 refine ⟨?_,cm _ _⟩
 cases h:x.scrub bad <;> first
  | rfl
  | (rw [<- h]; have:(x.scrub bad).opn []=x.scrub bad:=by (rw [h]; rfl)
     rw [this]; exact tM bad x)
theorem zU {L X:List Nat} {cs:List Cr} {x x':dk cs} {S':St} (hF:Fr L (bD L X) (bf S L X cs x) S') (henv:∀ (y:dk cs) s,(envOf cs y s).isSome=(envOf cs x s).isSome)
  (hlh:∀ (y:dk cs) d,(lhOf cs y d).isSome=(lhOf cs x d).isSome) (hbox:∀ d,(cs.flatMap Cr.boxName).contains d=true->(lhOf cs x d).isSome=true) :
  (bf S' L X cs x').env=(bf S L X cs x').env/\(bf S' L X cs x').lh=(bf S L X cs x').lh/\(bf S' L X cs x').n=S.n:=by
 refine ⟨?_,?_,hF.n⟩
 ·funext s;simp only [bf];cases he:envOf cs x' s with
  | some a=>rfl
  | none =>
   cases hL:L.contains s
   ·simp only [PF]
    have hnone:envOf cs x s=none:=by
     have:=henv x' s;rw [he] at this;cases hx:envOf cs x s with
     | none=>rfl
     | some a=>rw [hx] at this; cases this
    have e1:(bf S L X cs x).env s=((S.env s).scrub (bD L X)).opn []:=by
     simp only [bf,hnone,hL,PF]
    have hst:AT (bD L X) ((bf S L X cs x).env s):=by rw [e1]; exact nj _ _
    have h2:=hF.env s hL hst;rw [h2,e1,(nj (bD L X) (S.env s)).1,gR (cm _ _)]
   ·rfl
 ·funext d;simp only [bf];cases he:lhOf cs x' d with
  | some a=>rfl
  | none =>
   cases hb:bD L X d
   ·simp only [PF]
    have hnone:lhOf cs x d=none:=by
     have:=hlh x' d;rw [he] at this;cases hx:lhOf cs x d with
     | none=>rfl
     | some a=>rw [hx] at this; cases this
    have hnb:(cs.flatMap Cr.boxName).contains d=false:=by
     cases hbx:(cs.flatMap Cr.boxName).contains d
     ·rfl
     ·have:=hbox d hbx; rw [hnone] at this; cases this
    have e1:(bf S L X cs x).lh d=(S.lh d).map (LE.scrub (bD L X)):=by
     simp only [bf,hnone,hb,PF]
    have hlock:(bf S L X cs x).lock d=true:=by simp only [bf,hb,hnb]; rfl
    have h2:=hF.lh d hlock (fun e he=>by
     rw [e1] at he;simp only [Py] at he;obtain ⟨e0,_,rfl⟩:=he;exact gm _ e0)
    rw [h2,e1];cases S.lh d with
    | none=>rfl
    | some e0=>simp only [Qb,gm]
   ·rfl
end
section
variable {L:List Nat} {bad:Nat->Bool} {S:St} {P:Program} {ss:Specs} {ops:Array Oper}
theorem Nk (hN:Named L bad) (h:Tidy bad S) (hd:∀ o∈ops.toList,∀ d,o.dst=some d->L.contains d=true) {ps:List Prop} {S':St} (hr:oZ P ss ops S.clean=some (ps,S')) :
  Fr L bad S S'/\Tidy bad S':=by
 have hc:=fI (L:=L) h;unfold oZ tO at hr;have hf:=di (L:=L) (bad:=bad) (eC ss ops S.clean) S.clean hc.2;have hc:=And.intro (hc.1.trans hf.1) hf.2;clear hf h;generalize S.clean.freeze (eC ss ops S.clean)=S1 at *;split at hr;rename_i ps1 rs hm;split at hr <;> try cases hr
 split at hr <;> simp only [Ps,Pv,reduceCtorEq] at hr;obtain ⟨rfl,rfl⟩:=hr;rename_i qs S' hrun;obtain ⟨n,h1,h2,h3⟩:=oa (P:=P) (ss:=ss) (ops:=ops) (S:=S1) ops.toList [];rw [hm] at h1 h3;obtain ⟨rs1,e1,hl,hat⟩:=qF _ _ _ _ h3;simp only [P0] at e1 hat;subst e1
 have k1:Fr L bad S1 (gK S1 rs):=by
  refine ⟨rfl,rfl,fun s hs _=>?_,fun _ _ _=>rfl,fun _ _ env h=>⟨env,h,fun _ _=>rfl⟩⟩
  have:lk rs s=none:=pG rs s (fun i a hi=>by
   have hlt:i<rs.length:=by
    rcases PU i rs.length with h | h
    ·exact h
    ·rw [List.getElem?_eq_none h] at hi; cases hi
   have ho:(ops.toList.take n)[i]?=some ((ops.toList.take n)[i]'(by omega)):=List.getElem?_eq_getElem (by omega);obtain ⟨qs',d,r,g1,g2,_⟩:=hat i _ ho;rw [hi] at g1;injection g1 with g1
   injection g1 with g1 _
   subst g1;have:=hd _ (QF (List.getElem_mem (by omega))) s (s7 g2);rw [hs] at this;cases this)
  simp only [gK,this]
 have k2:Tidy bad (gK S1 rs):=⟨hc.2.lock,hc.2.row,hc.2.frame⟩;have k3:=uU hN _ _ _ _ k2 (fun o ho d hdst=>hd o (QB ho) d hdst) hrun;exact ⟨(hc.1.trans k1).trans k3.1,k3.2⟩
theorem FN (l:List (Nat×AV)) (hl:∀ x∈l,L.contains x.1=true) (h:Tidy bad S):Fr L bad S (gK S l)/\Tidy bad (gK S l):=by
 refine ⟨⟨rfl,rfl,fun s hs _=>?_,fun _ _ _=>rfl,fun _ _ env h=>⟨env,h,fun _ _=>rfl⟩⟩,⟨h.lock,h.row,h.frame⟩⟩
 have:lk l s=none:=pG l s (fun i a hi=>by
  have:=hl _ (QM hi);rw [hs] at this;cases this)
 simp only [gK,this]
theorem nl (f:Nat->Bool):∀ (ent:List (Option (Nat×AV))) (n:Nat) (x:Nat×AV),x∈dr f n ent->∃ a,some (x.1,a)∈ent
 | [],_,x,h=>by cases h
 | none::es,n,x,h=>by
  obtain ⟨a,h⟩:=nl f es (n+1) x h;exact ⟨a,P1 _ h⟩
 | some (d,b)::es,n,x,h=>by
  simp only [dr] at h;rcases PD.1 h with rfl | h
  ·exact ⟨b,PV⟩
  ·obtain ⟨a,h⟩:=nl f es (n+1) x h;exact ⟨a,P1 _ h⟩
theorem Lz (h:Tidy bad S) (hd:∀ o∈ops.toList,∀ d,o.dst=some d->L.contains d=true):Fr L bad S (Ex ss ops S)/\Tidy bad (Ex ss ops S):=by
 have hc:=fI (L:=L) h
 have hs:=FN (L:=L) ((tg ss ops).map fun d=>(d,AV.any)) (fun x hx=>by
  obtain ⟨d,iC,rfl⟩:=P3.1 hx;obtain ⟨o,ho,he⟩:=Q2.1 iC;split at he
  ·cases he
  ·exact hd o ho d he) hc.2
 exact ⟨hc.1.trans hs.1,hs.2⟩
theorem B7:∀ (os:List Oper) (i:Nat) (S:St) (ent:List (Option (Nat×AV))) (ps:List Prop) (Ss:List St) (ent':List (Option (Nat×AV))),iS P ss ops os i S ent=some (ps,Ss,ent')->Ss≠[]
 | [],i,S,ent,ps,Ss,ent',h=>by
  simp only [iS,Ps,Pv] at h;obtain ⟨_,rfl,_⟩:=h;simp
 | o::os,i,S,ent,ps,Ss,ent',h=>by
  unfold iS at h;split at h
  ·split at h <;> try cases h
   split at h <;> simp only [Ps,Pv,reduceCtorEq] at h;obtain ⟨_,rfl,_⟩:=h;simp
  ·split at h <;> try cases h
   split at h <;> simp only [Ps,Pv,reduceCtorEq] at h;rename_i qs Ss1 ent1 hr;obtain ⟨_,rfl,_⟩:=h;exact B7 os _ _ _ _ _ _ hr
theorem uT (hN:Named L bad) (hd:∀ o∈ops.toList,∀ d,o.dst=some d->L.contains d=true):∀ (os:List Oper) (i:Nat) (S:St) (ent:List (Option (Nat×AV))) (ps:List Prop) (Ss:List St) (ent':List (Option (Nat×AV))),iS P ss ops os i S ent=some (ps,Ss,ent')->Tidy bad S->(∀ o∈os,o∈ops.toList)->(∀ d a,some (d,a)∈ent->L.contains d=true) ->
  (∀ d a,some (d,a)∈ent'->L.contains d=true)/\∀ Sr,Ss.getLast?=some Sr->Fr L bad S Sr/\Tidy bad Sr
 | [],i,S,ent,ps,Ss,ent',h,hT,_,he=>by
  simp only [iS,Ps,Pv] at h;obtain ⟨_,rfl,rfl⟩:=h;refine ⟨he,fun Sr hSr=>?_⟩;simp only [List.getLast?_singleton,Ps] at hSr;subst hSr;exact ⟨Fr.refl _ _ _,hT⟩
 | o::os,i,S,ent,ps,Ss,ent',h,hT,hm,he=>by
  have hom:=hm o PV;have hm':∀ o∈os,o∈ops.toList:=fun o ho=>hm o (P1 _ ho)
  unfold iS at h;split at h
  ·split at h <;> try cases h
   rename_i ps1 T hev;split at h <;> simp only [Ps,Pv,reduceCtorEq] at h;rename_i qs Ss1 ent1 hr;obtain ⟨rfl,rfl,rfl⟩:=h
   have k1:=FN (L:=L) (dr (dQ ops i) 0 ent) (fun x hx=>by
    obtain ⟨a,ha⟩:=nl _ _ _ _ hx;exact he _ _ ha) hT
   have k2:=LA hN k1.2 (hd o hom) hev;have k3:=Lz (ss:=ss) k2.2 hd
   obtain ⟨k4,k5⟩:=uT hN hd os _ _ _ _ _ _ hr k3.2 hm' (fun d a h=>by
    rcases PI.1 h with h | h
    ·exact he d a h
    ·cases PB.1 h)
   refine ⟨k4,fun Sr hSr=>?_⟩;cases hS1:Ss1 with
   | nil =>
    exfalso;have:=B7 os _ _ _ _ _ _ hr;exact this hS1
   | cons S1 Ss2 =>
    rw [hS1,List.getLast?_cons_cons,<- hS1] at hSr;obtain ⟨k6,k7⟩:=k5 Sr hSr;exact ⟨((k1.1.trans k2.1).trans k3.1).trans k6,k7⟩
  ·split at h <;> try cases h
   rename_i ps1 r d hev hdst;split at h <;> simp only [Ps,Pv,reduceCtorEq] at h;rename_i qs Ss1 ent1 hr;obtain ⟨rfl,rfl,rfl⟩:=h
   exact uT hN hd os _ _ _ _ _ _ hr hT hm' (fun d' a h=>by
    rcases PI.1 h with h | h
    ·exact he d' a h
    ·have:=PB.1 h;injection this with this
     injection this with this _
     subst this;exact hd o hom _ hdst)
theorem NL (hN:Named L bad) (hT:Tidy bad S) (hd:∀ o∈ops.toList,∀ d,o.dst=some d->L.contains d=true) {ps:List Prop} {S':St} (hr:xf P ss ops S=some (ps,S')) :
  Fr L bad S S'/\Tidy bad S':=by
 unfold xf at hr;generalize Dd ops ops.size=k at *;have hdh:∀ o∈(ops.toList.take k).toArray.toList,∀ d,o.dst=some d->L.contains d=true:=fun o ho d hdst=>hd o (QF (by simpa using ho)) d hdst
 generalize (ops.toList.take k).toArray=he at *;unfold KF at hr;split at hr <;> try cases hr
 rename_i ps1 Ss ent hgo;split at hr <;> try cases hr
 rename_i qs Sr hchk hlast;split at hr <;> try cases hr
 split at hr <;> simp only [Ps,Pv,reduceCtorEq] at hr;rename_i qs2 S2 hrun;obtain ⟨rfl,rfl⟩:=hr;have k1:=Lz (ss:=ss) hT hdh;obtain ⟨k2,k3⟩:=uT hN hdh _ _ _ _ _ _ _ hgo k1.2 (fun o ho=>ho) (fun d a h=>by cases h);obtain ⟨k4,k5⟩:=k3 Sr hlast
 have k6:=FN (L:=L) (dr (fun _=>true) 0 ent) (fun x hx=>by
  obtain ⟨a,ha⟩:=nl _ _ _ _ hx;exact k2 _ _ ha) k5
 have k7:=uU hN _ _ _ _ k6.2 (fun o ho d hdst=>hd o (QB ho) d hdst) hrun;exact ⟨((k1.1.trans k4).trans k6.1).trans k7.1,k7.2⟩
theorem NM (_:Named L bad) (_:Tidy bad S) (_:∀ o∈ops.toList,∀ d,o.dst=some d->L.contains d=true) {ps:List Prop} {S':St} (hr:Gy P ss ops S=some (ps,S')) :
  Fr L bad S S'/\Tidy bad S':=by cases hr
theorem OW (hN:Named L bad) (hT:Tidy bad S) (hd:∀ o∈ops.toList,∀ d,o.dst=some d->L.contains d=true) {ps:List Prop} {S':St} (hr:Iw P ss ops S=some (ps,S')) :
  Fr L bad S S'/\Tidy bad S':=by
 unfold Iw at hr;split at hr
 ·rename_i r h1;injection hr with hr
  subst hr;exact NL hN hT hd h1
 ·have hf:=di (L:=L) (bad:=bad) (eC ss ops S) S hT;have k:=NL hN hf.2 hd hr;exact ⟨hf.1.trans k.1,k.2⟩
theorem OX (hN:Named L bad) (hT:Tidy bad S) (hd:∀ o∈ops.toList,∀ d,o.dst=some d->L.contains d=true) {ps:List Prop} {S':St} (hr:Ix P ss ops S=some (ps,S')) :
  Fr L bad S S'/\Tidy bad S':=by
 unfold Ix at hr;split at hr
 ·rename_i r h1;injection hr with hr
  subst hr;exact NM hN hT hd h1
 ·have hf:=di (L:=L) (bad:=bad) (eC ss ops S) S hT;have k:=NM hN hf.2 hd hr;exact ⟨hf.1.trans k.1,k.2⟩
theorem LB (hN:Named L bad) (h:Tidy bad S) (hd:∀ o∈ops.toList,∀ d,o.dst=some d->L.contains d=true) {ps:List Prop} {S':St} (hr:mB P ss ops S.clean=some (ps,S')) :
  Fr L bad S S'/\Tidy bad S':=by
 unfold mB at hr;split at hr
 ·rename_i r h1;injection hr with hr
  subst hr;exact Nk hN h hd h1
 ·have hc:=fI (L:=L) h;split at hr
  ·rename_i r h1;injection hr with hr
   subst hr;have k:=OW hN hc.2 hd h1;exact ⟨hc.1.trans k.1,k.2⟩
  ·have k:=OX hN hc.2 hd hr;exact ⟨hc.1.trans k.1,k.2⟩
theorem LC {b:Bool} (hN:Named L bad) (h:Tidy bad S) (hd:∀ o∈ops.toList,∀ d,o.dst=some d->L.contains d=true) {ps:List Prop} {S':St} (hr:mC b P ss ops S.clean=some (ps,S')) :
  Fr L bad S S'/\Tidy bad S':=by
 unfold mC at hr;cases b
 ·exact LB hN h hd hr
 ·simp only [PZ] at hr;have hc:=fI (L:=L) h;split at hr
  ·rename_i r h1;injection hr with hr
   subst hr;have k:=OW hN hc.2 hd h1;exact ⟨hc.1.trans k.1,k.2⟩
  ·have k:=OX hN hc.2 hd hr;exact ⟨hc.1.trans k.1,k.2⟩
end
def qp (φ ψ:Nat->Nat) (d:Nat):Bool:=Nat.beq (ψ (φ d)) d
def AV.ren (φ ψ:Nat->Nat):AV->AV
 | .own d=>bif qp φ ψ d then .own (φ d) else .any
 | .loc d off=>bif qp φ ψ d then .loc (φ d) off else .any
 | .el d T i off=>bif qp φ ψ d then .el (φ d) T i off else .any
 | .mp d=>bif qp φ ψ d then .mp (φ d) else .any
 | .fn f c1 c2=>bif (c1.all fun x=>qp φ ψ x.1)&&(c2.all fun x=>qp φ ψ x.1) then .fn f (c1.map fun x=>(φ x.1,x.2)) (c2.map fun x=>(φ x.1,x.2)) else .any
 | .pair a b=>.pair (a.ren φ ψ) (b.ren φ ψ)
 | .tup a b=>.tup (a.ren φ ψ) (b.ren φ ψ)
 | .gd g w a=>.gd g w (a.ren φ ψ)
 | .osl d T i n=>bif qp φ ψ d then .osl (φ d) T i n else .any
 | .psl d i n=>bif qp φ ψ d then .psl (φ d) i n else .any
 | .any=>.any
 | .int k n=>.int k n
 | .bool b=>.bool b
 | .str s=>.str s
 | .nils=>.nils
 | .sl T xs=>.sl T xs
 | .tnil=>.tnil
 | .pt T x off=>.pt T x off
 | .bl t f=>.bl t f
 | .fd A B g=>.fd A B g
 | .md k V m=>.md k V m
 | .nilm=>.nilm
 | .nilf=>.nilf
def LE.ren (φ ψ:Nat->Nat):LE->LE
 | .cells c=>.cells (c.ren φ ψ)
 | .row e T xs=>.row e T xs
 | .froz T xs=>.froz T xs
 | .mapp k V m=>.mapp k V m
 | .frozm k V m=>.frozm k V m
 | .iter k V l c=>.iter k V l c
 | .mapo k V m x c=>.mapo k V m x (c.ren φ ψ)
 | .dead=>.dead
 | .frame tm env=>.frame tm (fun s=>(env s).ren φ ψ)
theorem LE.ren_live (φ ψ:Nat->Nat) (e:LE):(e.ren φ ψ).live=e.live:=by cases e <;> rfl
def mD (φ ψ:Nat->Nat) (lh:Nat->Option LE):Nat->Option LE:=fun n=>bif Nat.beq (φ (ψ n)) n then (lh (ψ n)).map (LE.ren φ ψ) else none
section
variable {φ ψ:Nat->Nat} {p:PH} {β:Nat->Value} {tm:Array Value} {w:World}
theorem oh {d:Nat} (h:qp φ ψ d=true):ψ (φ d)=d:=Pw h
theorem lJ:∀ (c:List (Nat×Nat)) (vs:List Value),(c.all fun x=>qp φ ψ x.1)=true->ij β c vs->ij (fun n=>β (ψ n)) (c.map fun x=>(φ x.1,x.2)) vs
 | [],_,_,h=>h
 | (d,off)::c,_,hb,⟨b,rest,e,hd,hr⟩=>by
  simp only [Qv,Px] at hb;exact ⟨b,rest,e,by simp only [oh hb.1]; exact hd,lJ c rest hb.2 hr⟩
theorem AV.one_ren (a:AV) (v:Value) (ha:a.one p β v):(a.ren φ ψ).one p (fun n=>β (ψ n)) v:=by
 cases a <;> simp only [AV.ren] <;> try (simp only [AV.one] at ha |- <;> exact ha)
 case own d=>cases hb:qp φ ψ d <;> simp only [PZ,PF,AV.one] at ha |-; rw [oh hb]; exact ha
 case loc d off=>cases hb:qp φ ψ d <;> simp only [PZ,PF,AV.one] at ha |-; rw [oh hb]; exact ha
 case el d T i off=>cases hb:qp φ ψ d <;> simp only [PZ,PF,AV.one] at ha |-; rw [oh hb]; exact ha
 case osl d T i n=>cases hb:qp φ ψ d <;> simp only [PZ,PF,AV.one] at ha |-; rw [oh hb]; exact ha
 case psl d i n=>cases hb:qp φ ψ d <;> simp only [PZ,PF,AV.one] at ha |-; rw [oh hb]; exact ha
 case mp d=>cases hb:qp φ ψ d <;> simp only [PZ,PF,AV.one] at ha |-; rw [oh hb]; exact ha
 case fn f c1 c2 =>
  cases hb:(c1.all fun x=>qp φ ψ x.1)&&(c2.all fun x=>qp φ ψ x.1) <;> simp only [PZ,PF,AV.one] at ha |-;simp only [Px] at hb;obtain ⟨v1,v2,e,h1,h2⟩:=ha;exact ⟨v1,v2,e,lJ _ _ hb.1 h1,lJ _ _ hb.2 h2⟩
theorem AV.ren_pair (a:AV) (hp:∀ x y,a≠.pair x y):∀ x y,a.ren φ ψ≠.pair x y:=by
 intro x y e;cases a <;> simp only [AV.ren] at e <;> first | (exact absurd rfl (hp _ _)) | cases e | (revert e; cases qp _ _ _ <;> intro e <;> cases e) | (revert e; cases (_&&_) <;> intro e <;> cases e)
theorem AV.cells_ren:∀ (a:AV) (cs:List Value),a.cells p β cs->(a.ren φ ψ).cells p (fun n=>β (ψ n)) cs:=by
 intro a
 induction a with
 | pair a b _ ih2 =>
  intro cs hc
  match cs,hc with
  | v::cs,hc=>exact ⟨AV.one_ren a v hc.1,ih2 cs hc.2⟩
 | _ =>
  intro cs hc;obtain ⟨v,e,hv⟩:=(AV.cells_leaf _ (by intro x y e; cases e) cs).1 hc;exact (AV.cells_leaf _ (AV.ren_pair _ (by intro x y e; cases e)) cs).2 ⟨v,e,AV.one_ren _ v hv⟩
theorem AV.val1_ren (a:AV) (v:Value) (ha:a.val1 p β v):(a.ren φ ψ).val1 p (fun n=>β (ψ n)) v:=by
 by_cases hp:∀ x y,a≠.pair x y
 ·exact (AV.val1_leaf _ (AV.ren_pair a hp) v).2 (AV.one_ren a v ((AV.val1_leaf a hp v).1 ha))
 ·cases a <;> (first | (exfalso; apply hp; intro x y e; cases e; done) | skip);obtain ⟨cs,e,hc⟩:=ha;exact ⟨cs,e,AV.cells_ren _ _ hc⟩
theorem AV.vals_ren:∀ (a:AV) (vs:List Value),a.vals p β vs->(a.ren φ ψ).vals p (fun n=>β (ψ n)) vs:=by
 intro a
 induction a with
 | tup a b _ ih2 =>
  intro vs hv
  match vs,hv with
  | v::vs,hv=>exact ⟨AV.val1_ren a v hv.1,ih2 vs hv.2⟩
 | tnil=>intro vs hv; cases vs <;> exact hv
 | _=>intro vs hv; simp [AV.vals] at hv
theorem AV.val_ren:∀ (a:AV) (v:Value),a.val p β tm v->(a.ren φ ψ).val p (fun n=>β (ψ n)) tm v:=by
 intro a
 induction a with
 | gd g w a ih =>
  intro v ha;rcases ha with ⟨e,ha⟩ | ha
  ·exact .inl ⟨e,ih v ha⟩
  ·exact .inr ha
 | tup a b =>
  intro v ha;obtain ⟨vs,e,hv⟩:=ha;exact ⟨vs,e,AV.vals_ren _ _ hv⟩
 | tnil=>intro v ha; exact ha
 | pair a b=>intro v ha; exact AV.val1_ren _ v ha
 | _ =>
  intro v ha;have hs:=AV.val1_ren (φ:=φ) (ψ:=ψ) _ v ha;simp only [AV.ren] at hs |-
  first
   | exact hs
   | (revert hs; cases qp _ _ _ <;> exact fun hs=>hs)
   | (revert hs; cases (_&&_) <;> exact fun hs=>hs)
theorem LE.sat_ren {d:Nat} (e:LE) (he:e.sat p β w (ψ d)):(e.ren φ ψ).sat p (fun n=>β (ψ n)) w d:=by
 cases e with
 | cells c=>obtain ⟨b,cs,t,e1,e2,e3⟩:=he; exact ⟨b,cs,t,e1,e2,AV.cells_ren _ _ e3⟩
 | frame tm env=>exact fun s=>AV.val_ren _ _ (he s)
 | mapo k V m x c =>
  obtain ⟨r,es,clock,e1,e2,e3,e4,e5⟩:=he;refine ⟨r,es,clock,e1,e2,e3,e4,cf (fun o v hv=>?_) _ _ e5⟩;cases o with
  | some y=>exact hv
  | none=>exact AV.one_ren c v hv
 | dead=>trivial
 | _=>exact he
theorem AV.ren_noGd {x:AV} (h:x.noGd=true):(x.ren φ ψ).noGd=true:=by
 cases x <;> simp only [AV.ren] <;> first | rfl | (cases h; done) | (cases qp _ _ _ <;> rfl) | (cases (_&&_) <;> rfl)
end
theorem SatB.renamed {M:Nat->Prop} {p0:PH} {w0:World} {S:St} {tm tm':Array Value} {w:World} {p:PH} {β:Nat->Value} (h:SatB M p0 w0 S tm w p β) {φ ψ:Nat->Nat} {T:St}
  (hlh:∀ n e,T.lh n=some e->e.live=false/\e.sat p (fun n=>β (ψ n)) w n\/mD φ ψ S.lh n=some e) (hsz:tm'.size=T.n) (henv:∀ s,(T.env s).val p (fun n=>β (ψ n)) tm' (tm'.getD s undef)):SatB M p0 w0 T tm' w p (fun n=>β (ψ n)):=by
 have key:∀ n e,mD φ ψ S.lh n=some e->φ (ψ n)=n/\∃ e0,S.lh (ψ n)=some e0/\e=e0.ren φ ψ:=by
  intro n e he;unfold mD at he;cases hb:Nat.beq (φ (ψ n)) n
  ·rw [hb] at he; cases he
  ·rw [hb] at he;simp only [PZ,Py] at he;obtain ⟨e0,h1,h2⟩:=he;exact ⟨Pw hb,e0,h1,h2.symm⟩
 refine ⟨h.keep,h.agr,h.old,hsz,fun n e he=>?_,fun n e b he hl hb=>?_,fun n n' e e' b he hl he' hl' hb hb'=>?_,henv⟩
 ·rcases hlh n e he with ⟨_,h1⟩ | h1
  ·exact h1
  ·obtain ⟨_,e0,h2,rfl⟩:=key n e h1;exact LE.sat_ren e0 (h.lhs _ _ h2)
 ·rcases hlh n e he with ⟨h1,_⟩ | h1
  ·rw [h1] at hl; cases hl
  ·obtain ⟨_,e0,h2,rfl⟩:=key n e h1;exact h.owns _ e0 b h2 (by rw [LE.ren_live] at hl; exact hl) hb
 ·rcases hlh n e he with ⟨h1,_⟩ | h1
  ·rw [h1] at hl; cases hl
  ·rcases hlh n' e' he' with ⟨k1,_⟩ | k1
   ·rw [k1] at hl'; cases hl'
   ·obtain ⟨g1,e0,h2,rfl⟩:=key n e h1;obtain ⟨g2,e1,k2,rfl⟩:=key n' e' k1;rw [LE.ren_live] at hl hl';have:=h.inj _ _ e0 e1 b h2 hl k2 hl' hb hb';rw [<- g1,<- g2,this]
def iM (d:Nat):Nat:=1000000 * d+900000
def vM (n:Nat):Nat:=bif Nat.beq (n % 1000000) 900000 then n / 1000000 else n
def j8 (d m:Nat):Nat:=bif Nat.beq (m % 1000000) 900000 then m / 1000000 else d+1000000 * (100+m)
def sJ (d n:Nat):Nat:=bif Nat.beq (n % 1000000) d&&Nat.ble 100 (n / 1000000) then n / 1000000 - 100 else 1000000 * n+900000
def c8:Nat:=900002
def C2:List AV->Nat->AV
 | [],_=>.any
 | a::_,0=>a
 | _::xs,n+1=>C2 xs n
def dP (tm:Array Value) (S:St) (n:Nat) (avs:List AV):St where
 env:=fun s=>(C2 avs s).ren iM vM
 lh:=fun d=>bif Nat.beq d c8 then some (.frame tm (fun s=>(S.env s).ren iM vM)) else mD iM vM S.lh d
 n:=n
 lock:=fun d=>bif Nat.beq d c8 then true else bif Nat.beq (d % 1000000) 900000 then S.lock (d / 1000000) else false
def AV.plain:AV->AV
 | .gd ..=>.any
 | .tup ..=>.any
 | .tnil=>.any
 | a=>a
def Ka:List AV->AV
 | []=>.tnil
 | a::xs=>.tup a.plain (Ka xs)
def KH:List AV->AV
 | [a]=>a.plain
 | xs=>Ka xs
def r6 (S S':St) (env':Nat->AV) (d:Nat) (avs:List AV):St :=
 St.set { env:=fun s=>(env' s).ren (j8 d) (sJ d)
          lh:=fun n=>bif Nat.beq (sJ d n) c8 then none else mD (j8 d) (sJ d) S'.lh n
          n:=S.n,lock:=S.lock } d ((KH avs).ren (j8 d) (sJ d))
def m7 (bad:Nat->Bool) (n:Nat):Bool:=bif Nat.beq (n % 1000000) 900000 then bad (n / 1000000) else !Nat.beq n c8
section
variable {M:Nat->Prop} {p0:PH} {w0:World} {S S':St} {tm tm':Array Value} {w w':World} {p:PH} {β:Nat->Value} {L L':List Nat} {bad:Nat->Bool}
theorem x3:∀ (avs:List AV) (s:Nat),C2 avs s=match avs[s]? with | some a=>a | none=>.any
 | [],s=>by simp [C2]
 | a::xs,0=>rfl
 | a::xs,s+1=>by simp only [C2,List.getElem?_cons_succ]; exact x3 xs s
theorem Jt (h:SatB M p0 w0 S tm w p β) {avs:List AV} {vs:List Value} (hl:vs.length=avs.length) (hv:∀ (i:Nat) a v,avs[i]?=some a->vs[i]?=some v->a.val p β tm v/\a.noGd=true) {n:Nat} (hn:avs.length<=n) :
  SatB M p0 w0 (dP tm S n avs) (vs.toArray++Array.replicate (n - vs.toArray.size) undef) w p (fun n=>β (vM n)):=by
 refine h.renamed (φ:=iM) (fun d e he=>?_) (by simp [dP,hl]; omega) (fun s=>?_)
 ·simp only [dP] at he;cases hb:Nat.beq d c8
  ·rw [hb] at he; exact .inr he
  ·rw [hb] at he;simp only [PZ,Ps] at he;subst he;exact .inl ⟨rfl,fun s=>AV.val_ren _ _ (h.env s)⟩
 ·simp only [dP,x3];cases ha:avs[s]? with
  | none=>trivial
  | some a =>
   have hs:s<avs.length:=(List.getElem?_eq_some_iff.1 ha).1;have hv1:vs[s]?=some (vs[s]'(by omega)):=List.getElem?_eq_getElem (by omega)
   have e:(vs.toArray++Array.replicate (n - vs.toArray.size) undef).getD s undef=vs[s]'(by omega):=by
    simp only [Sc,Array.getElem?_append,Qx,List.getElem?_toArray];rw [if_pos (by omega),hv1];rfl
   rw [e];obtain ⟨k1,k2⟩:=hv s a _ ha hv1;exact fe (AV.ren_noGd k2) (AV.val_ren _ _ k1)
theorem uq {a:AV} {v:Value} (h:a.val p β tm v):a.plain.val1 p β v:=by
 cases a <;> first | trivial | exact h
theorem tw:∀ (avs:List AV) (vs:List Value),vs.length=avs.length->(∀ (i:Nat) a v,avs[i]?=some a->vs[i]?=some v->a.val p β tm v)->(Ka avs).vals p β vs
 | [],[],_,_=>trivial
 | [],_::_,h,_=>by cases h
 | _::_,[],h,_=>by cases h
 | a::xs,v::vs,hl,h=>⟨uq (h 0 a v rfl rfl),tw xs vs (by simpa using hl) (fun i a v ha hv=>h (i+1) a v (by simpa using ha) (by simpa using hv))⟩
theorem Fe (a:AV):a.plain.noGd=true:=by cases a <;> rfl
theorem Fa (avs:List AV):(KH avs).noGd=true:=by
 match avs with
 | []=>rfl
 | [a]=>exact Fe a
 | _::_::_=>rfl
theorem IA {avs:List AV} {vs:List Value} (hl:vs.length=avs.length) (h:∀ (i:Nat) a v,avs[i]?=some a->vs[i]?=some v->a.val p β tm v):(KH avs).val p β tm (cr vs):=by
 match avs,vs,hl,h with
 | [],[],_,_=>rfl
 | [a],[v],_,h=>exact AV.val_of_val1 (uq (h 0 a v rfl rfl))
 | a::b::xs,u::v::vs,hl,h=>exact ⟨u::v::vs,rfl,tw (a::b::xs) (u::v::vs) hl h⟩
theorem M0 (h:SatB M p0 w0 S' tm' w p β) {env':Nat->AV} (hf:S'.lh c8=some (.frame tm env')) (hsz:tm.size=S.n) {d:Nat} (hd:d<S.n) {avs:List AV} {vs:List Value} (hl:vs.length=avs.length)
  (hv:∀ (i:Nat) a v,avs[i]?=some a->vs[i]?=some v->a.val p β tm' v):Sat M p0 w0 (r6 S S' env' d avs) (tm.setIfInBounds d (cr vs)) w:=by
 refine ⟨p,fun n=>β (sJ d n),SatB.set ?_ hd (AV.val_ren _ _ (fe (Fa _) (IA hl hv)))⟩;refine h.renamed (φ:=j8 d) (fun n e he=>?_) hsz (fun s=>AV.val_ren _ _ (h.lhs _ _ hf s));simp only at he;cases hb:Nat.beq (sJ d n) c8
 ·rw [hb] at he; exact .inr he
 ·rw [hb] at he; cases he
theorem LI (h:∀ n,Am n=true->bad n=true):∀ n,Am n=true->m7 bad n=true:=by
 intro n hn;unfold m7;unfold Am at hn;rw [Jo] at hn;cases hb:Nat.beq (n % 1000000) 900000
 ·rw [hb] at hn;simp only [PF] at hn |-;have:=PN hn;have hne:n≠c8:=by unfold c8; unfold Nl at this; omega
  rw [cg hne]; rfl
 ·rw [hb] at hn;simp only [PZ] at hn |-;exact h _ (yp 8 _ hn)
theorem FF (h:L'.all (Nat.blt · 900000)=true):Named L' (m7 bad):=by
 intro d hd k
 have h1:d<900000:=by
  have:=PA.1 h d (PY.1 hd);simpa using this
 have h2:bv d k % 1000000=d:=by unfold bv; omega
 have h3:bv d k≠c8:=by unfold c8 bv; omega
 unfold m7;rw [h2,cg (by omega),cg h3];rfl
theorem NO (d:Nat):vM (iM d)=d:=by
 unfold vM iM;have e1:(1000000 * d+900000) % 1000000=900000:=by omega
 have e2:(1000000 * d+900000) / 1000000=d:=by omega
 rw [e1,e2];rfl
theorem za (d:Nat):iM d % 1000000=900000:=by unfold iM; omega
theorem zb (d:Nat):iM d / 1000000=d:=by unfold iM; omega
theorem tv (d:Nat):iM d≠c8:=by unfold iM c8; omega
theorem AK (d:Nat):m7 bad (iM d)=bad d:=by
 unfold m7;rw [za,zb];rfl
theorem DB {n:Nat} {avs:List AV} (d:Nat):(dP tm S n avs).lh (iM d)=(S.lh d).map (LE.ren iM vM):=by
 simp only [dP,cg (tv d),PF,mD,NO,eu,PZ]
theorem kR {n:Nat} {avs:List AV} (d:Nat):(dP tm S n avs).lock (iM d)=S.lock d:=by
 simp only [dP,cg (tv d),PF,za,zb,eu,PZ]
theorem Cc {n:Nat} {e:LE} (h:mD iM vM S.lh n=some e):∃ m e0,n=iM m/\S.lh m=some e0/\e=e0.ren iM vM:=by
 unfold mD at h;cases hb:Nat.beq (iM (vM n)) n
 ·rw [hb] at h; cases h
 ·rw [hb] at h;simp only [PZ,Py] at h;obtain ⟨e0,h1,h2⟩:=h;exact ⟨vM n,e0,(Pw hb).symm,h1,h2.symm⟩
theorem FX (hT:Tidy bad S) {n:Nat} {avs:List AV}:Tidy (m7 bad) (dP tm S n avs):=by
 refine ⟨fun d hd=>?_,fun d e T xs hd hl=>?_,fun d tm' env hd=>?_⟩
 ·simp only [dP] at hd;cases hb:Nat.beq d c8
  ·rw [hb] at hd;simp only [PF] at hd;unfold m7;cases hu:Nat.beq (d % 1000000) 900000
   ·rw [hu] at hd; cases hd
   ·rw [hu] at hd; exact hT.lock _ hd
  ·have:=Pw hb;subst this;rfl
 ·simp only [dP] at hd;cases hb:Nat.beq d c8
  ·rw [hb] at hd;obtain ⟨m,e0,rfl,h2,h3⟩:=Cc hd;rw [kR] at hl;rw [AK];cases e0 <;> simp only [LE.ren,reduceCtorEq] at h3;exact hT.row m _ _ _ h2 hl
  ·rw [hb] at hd; cases hd
 ·simp only [dP] at hd;cases hb:Nat.beq d c8
  ·rw [hb] at hd;obtain ⟨m,e0,rfl,h2,h3⟩:=Cc hd;rw [kR];cases e0 <;> simp only [LE.ren,reduceCtorEq] at h3;exact hT.frame m _ _ h2
  ·simp only [dP,hb,PZ]
theorem Ob {d n:Nat} (hN:Named L bad) (hd:L.contains d=true) (hn:bad n=false):sJ d n=iM n:=by
 unfold sJ;cases hb:Nat.beq (n % 1000000) d&&Nat.ble 100 (n / 1000000)
 ·rfl
 ·exfalso;simp only [Px] at hb;have h1:=Pw hb.1;have:=hN d hd (n / 1000000);have e:bv d (n / 1000000)=n:=by unfold bv; omega
  rw [e,hn] at this;cases this
theorem GS {d m:Nat} (h:sJ d m=iM m):qp (j8 d) (sJ d) (iM m)=true/\j8 d (iM m)=m:=by
 have e:j8 d (iM m)=m:=by
  unfold j8;rw [za,zb];rfl
 exact ⟨by unfold qp; rw [e,h]; exact eu _,e⟩
theorem nW (m:Nat):qp iM vM m=true:=by unfold qp; rw [NO]; exact eu _
theorem lV {d:Nat} (hback:∀ m,bad m=false->sJ d m=iM m):∀ (x:AV),x.scrub bad=x->(x.ren iM vM).scrub (m7 bad)=x.ren iM vM/\(x.ren iM vM).ren (j8 d) (sJ d)=x:=by
 have leaf:∀ m,bad m=false->m7 bad (iM m)=false/\qp (j8 d) (sJ d) (iM m)=true/\j8 d (iM m)=m:=fun m hm=>⟨by rw [AK]; exact hm,GS (hback m hm)⟩
 intro x
 induction x with
 | own m =>
  intro h;have hm:bad m=false:=by simp only [AV.scrub] at h; cases hb:bad m; rfl; rw [hb] at h; cases h
  obtain ⟨k1,k2,k3⟩:=leaf m hm;simp only [AV.ren,nW,AV.scrub,k1,k2,k3,PZ,PF,Rz]
 | loc m off =>
  intro h;have hm:bad m=false:=by simp only [AV.scrub] at h; cases hb:bad m; rfl; rw [hb] at h; cases h
  obtain ⟨k1,k2,k3⟩:=leaf m hm;simp only [AV.ren,nW,AV.scrub,k1,k2,k3,PZ,PF,Rz]
 | el m T i off =>
  intro h;have hm:bad m=false:=by simp only [AV.scrub] at h; cases hb:bad m; rfl; rw [hb] at h; cases h
  obtain ⟨k1,k2,k3⟩:=leaf m hm;simp only [AV.ren,nW,AV.scrub,k1,k2,k3,PZ,PF,Rz]
 | mp m =>
  intro h;have hm:bad m=false:=by simp only [AV.scrub] at h; cases hb:bad m; rfl; rw [hb] at h; cases h
  obtain ⟨k1,k2,k3⟩:=leaf m hm;simp only [AV.ren,nW,AV.scrub,k1,k2,k3,PZ,PF,Rz]
 | psl m i n =>
  intro h;have hm:bad m=false:=by simp only [AV.scrub] at h; cases hb:bad m; rfl; rw [hb] at h; cases h
  obtain ⟨k1,k2,k3⟩:=leaf m hm;simp only [AV.ren,nW,AV.scrub,k1,k2,k3,PZ,PF,Rz]
 | osl m T i n =>
  intro h;have hm:bad m=false:=by simp only [AV.scrub] at h; cases hb:bad m; rfl; rw [hb] at h; cases h
  obtain ⟨k1,k2,k3⟩:=leaf m hm;simp only [AV.ren,nW,AV.scrub,k1,k2,k3,PZ,PF,Rz]
 | fn f c1 c2 =>
  intro h
  have hm:((c1.any fun x=>bad x.1)||(c2.any fun x=>bad x.1))=false:=by
   simp only [AV.scrub] at h;cases hb:(c1.any fun x=>bad x.1)||(c2.any fun x=>bad x.1)
   ·rfl
   ·rw [hb] at h; cases h
  simp only [QG] at hm;have all:∀ c:List (Nat×Nat),(c.all fun x=>qp iM vM x.1)=true:=fun c=>PA.2 (fun x _=>nW _)
  have key:∀ c:List (Nat×Nat),(c.any fun x=>bad x.1)=false->((c.map fun x=>(iM x.1,x.2)).any fun x=>m7 bad x.1)=false/\((c.map fun x=>(iM x.1,x.2)).all fun x=>qp (j8 d) (sJ d) x.1)=true/\((c.map fun x=>(iM x.1,x.2)).map fun x=>(j8 d x.1,x.2))=c:=by
   intro c
   induction c with
   | nil=>intro _; exact ⟨rfl,rfl,rfl⟩
   | cons x c ih =>
    intro hc;simp only [Q4,QG] at hc;obtain ⟨j1,j2,j3⟩:=ih hc.2;obtain ⟨k1,k2,k3⟩:=leaf _ hc.1;simp only [Qf,Q4,Qv,k1,k2,k3,j1,j2,j3,Bool.or_self,Bool.and_self,Rz]
  obtain ⟨a1,a2,a3⟩:=key c1 hm.1;obtain ⟨b1,b2,b3⟩:=key c2 hm.2;simp only [AV.ren,all,Bool.and_self,PZ,AV.scrub,a1,b1,Bool.or_self,PF,a2,b2,a3,b3,Rz]
 | pair a b iha ihb =>
  intro h;simp only [AV.scrub,AV.pair.injEq] at h;simp only [AV.ren,AV.scrub,(iha h.1).1,(ihb h.2).1,(iha h.1).2,(ihb h.2).2,Rz]
 | tup a b iha ihb =>
  intro h;simp only [AV.scrub,AV.tup.injEq] at h;simp only [AV.ren,AV.scrub,(iha h.1).1,(ihb h.2).1,(iha h.1).2,(ihb h.2).2,Rz]
 | gd g w a iha =>
  intro h;simp only [AV.scrub,AV.gd.injEq,Ro] at h;simp only [AV.ren,AV.scrub,(iha h).1,(iha h).2,Rz]
 | _=>intro _; exact ⟨rfl,rfl⟩
theorem Hp {d:Nat} (hback:∀ m,bad m=false->sJ d m=iM m) (e:LE) (h:e.scrub bad=e):(e.ren iM vM).scrub (m7 bad)=e.ren iM vM/\(e.ren iM vM).ren (j8 d) (sJ d)=e:=by
 cases e with
 | cells c =>
  simp only [LE.scrub,LE.cells.injEq] at h;simp only [LE.ren,LE.scrub,(lV hback c h).1,(lV hback c h).2,Rz]
 | mapo k V m x c =>
  simp only [LE.scrub,LE.mapo.injEq,heq_eq_eq,Ro] at h;simp only [LE.ren,LE.scrub,(lV hback c h).1,(lV hback c h).2,Rz]
 | frame tm env =>
  simp only [LE.scrub,LE.frame.injEq,Ro] at h;have k:=fun s=>lV hback (env s) (congrFun h s)
  simp only [LE.ren,LE.scrub,(k _).1,(k _).2,Rz]
 | _=>exact ⟨rfl,rfl⟩
theorem Oc (hT:Tidy bad S) (hN:Named L bad) {d:Nat} (hd:L.contains d=true) {S2:St} (hlu:∀ m,S2.lh (iM m)=(S.lh m).map (LE.ren iM vM)) (hlf:S2.lh c8=some (.frame tm (fun s=>(S.env s).ren iM vM)))
  (hku:∀ m,S2.lock (iM m)=S.lock m) (hko:∀ n,S2.lock n=true->n=c8\/∃ m,n=iM m) (hF:Fr L' (m7 bad) S2 S') (hT':Tidy (m7 bad) S') {env':Nat->AV} (hf:S'.lh c8=some (.frame tm env')) (avs:List AV) :
  Fr L bad S (r6 S S' env' d avs)/\Tidy bad (r6 S S' env' d avs):=by
 have hback:∀ m,bad m=false->sJ d m=iM m:=fun m hm=>Ob hN hd hm
 have hlh:∀ m,bad m=false->(r6 S S' env' d avs).lh m=(S'.lh (iM m)).map (LE.ren (j8 d) (sJ d)):=by
  intro m hm;simp only [r6,St.set,hback m hm,cg (tv m),PF,mD,(GS (hback m hm)).2,eu,PZ]
 obtain ⟨env2,k1,k2⟩:=hF.frames c8 tm _ hlf;rw [hf] at k1;injection k1 with k1
 injection k1 with _ k1
 subst k1;refine ⟨⟨rfl,rfl,fun s hs hst=>?_,fun n hn hst=>?_,fun n tm1 env1 hn=>?_⟩,⟨hT.lock,fun n e T xs hn hl=>?_,fun n tm1 env1 hn=>?_⟩⟩
 ·have hne:s≠d:=by intro e; subst e; rw [hd] at hs; cases hs
  have kb:=lV hback (S.env s) hst.1;have e1:(r6 S S' env' d avs).env s=((env' s).ren (j8 d) (sJ d)).killG d:=by simp only [r6,St.set,cg hne,PF]
  rw [e1,k2 s ⟨kb.1,AV.ren_noGd hst.2⟩,kb.2];exact uK hst.2 d
 ·have hb:=hT.lock n hn;rw [hlh n hb]
  have e1:=hF.lh (iM n) (by rw [hku]; exact hn) (fun e he=>by
   rw [hlu] at he;simp only [Py] at he;obtain ⟨e0,g1,rfl⟩:=he;exact (Hp hback e0 (hst e0 g1)).1)
  rw [e1,hlu];cases hl:S.lh n with
  | none=>rfl
  | some e0=>simp only [Qb,(Hp hback e0 (hst e0 hl)).2]
 ·have hb:=hT.lock n (hT.frame n tm1 env1 hn);have e1:=hlu n;rw [hn] at e1;simp only [Qb,LE.ren] at e1;obtain ⟨env3,g1,g2⟩:=hF.frames _ _ _ e1;refine ⟨fun s=>(env3 s).ren (j8 d) (sJ d),by rw [hlh n hb,g1]; rfl,fun s hs=>?_⟩;have kb:=lV hback (env1 s) hs.1;show (env3 s).ren (j8 d) (sJ d)=env1 s;rw [g2 s ⟨kb.1,AV.ren_noGd hs.2⟩,kb.2]
 ·cases hb:bad n
  ·exfalso;rw [hlh n hb] at hn;simp only [Py] at hn;obtain ⟨e0,g1,g2⟩:=hn;cases e0 <;> simp only [LE.ren,reduceCtorEq] at g2;have:=hT'.row _ _ _ _ g1 (by rw [hF.lock,hku]; exact hl);rw [AK,hb] at this;cases this
  ·rfl
 ·have hn':(bif Nat.beq (sJ d n) c8 then none else mD (j8 d) (sJ d) S'.lh n)=some (.frame tm1 env1):=hn;cases hfr:Nat.beq (sJ d n) c8
  ·rw [hfr] at hn';simp only [PF,mD] at hn';cases ho:Nat.beq (j8 d (sJ d n)) n
   ·rw [ho] at hn'; cases hn'
   ·rw [ho] at hn';simp only [PZ,Py] at hn';obtain ⟨e0,g1,g2⟩:=hn';cases e0 <;> simp only [LE.ren,reduceCtorEq] at g2;have hlk:=hT'.frame _ _ _ g1;rw [hF.lock] at hlk;rcases hko _ hlk with h1 | ⟨m,h1⟩
    ·rw [h1] at hfr; simp at hfr
    ·rw [h1,hku] at hlk;have:=Pw ho;rw [h1] at this;have e2:j8 d (iM m)=m:=by unfold j8; rw [za,zb]; rfl
     rw [e2] at this;subst this;exact hlk
  ·rw [hfr] at hn'; cases hn'
end
def Ou (ops:Array Oper) (i:Nat):Bool:=match ops[i]? with
 | some o=>o.guard.isNone&&match o.op with
  | .move _=>true
  | .fieldAddr ..=>true
  | _=>false
 | none=>false
def qG (P:Program) (ss:Specs) (ops:Array Oper):Nat->Array Bool->St->(St->Prop)->Prop
 | 0,listed,S,K=>if (Region.ready .any ops listed).isEmpty then K S else False
 | fuel+1,listed,S,K=>if (Region.ready .any ops listed).isEmpty then K S else
   match (Region.ready .any ops listed).find? (fun i=>Ou ops i&&Region.free .any ops listed i) with
   | some i=>(match ops[i]? with
    | some o=>(match nQ P ss S [] o,o.dst with
     | some (ps,r),some d=>if Nat.blt d S.n&&Region.noSelect ops then ps.foldr And (qG P ss ops fuel (listed.setIfInBounds i true) (S.set d (r.opn [])) K) else False
     | _,_=>False)
    | none=>False)
   | none=>(Region.ready .any ops listed).foldr (fun i acc=>(match ops[i]? with
    | some o=>if o.guard.isNone then (match Ao P ss ops o S with
      | some (ps,S1)=>ps.foldr And (qG P ss ops fuel (listed.setIfInBounds i true) S1 K)
      | none=>False) else False
    | none=>False)/\acc) True
theorem qV {q:Prop}:∀ (ps:List Prop),ps.foldr And q->(∀ x∈ps,x)/\q
 | [],h=>⟨fun x hx=>(by cases hx),h⟩
 | p::ps,h=>by
  obtain ⟨h1,h2⟩:=qV ps h.2;refine ⟨fun x hx=>?_,h2⟩;rcases PD.1 hx with rfl | hx
  ·exact h.1
  ·exact h1 x hx
theorem uW {α:Type} {f:α->Prop}:∀ (l:List α),l.foldr (fun i acc=>f i/\acc) True->∀ i∈l,f i
 | [],_,_,hi=>by cases hi
 | x::l,h,i,hi=>by
  rcases PD.1 hi with rfl | hi
  ·exact h.1
  ·exact uW l h.2 i hi
section
variable {M:Nat->Prop} {p0:PH} {w0:World} {P:Program} {ss:Specs} {ops:Array Oper}
theorem LJ (hss:ss.okA P M w0) {Q:Exit->Act->World->Prop} {K:Act->World->Prop} {o:Oper} {S S1:St} {ps1:List Prop} {a:Act} {w:World} (hg:o.guard=none) (h1:Ao P ss ops o S=some (ps1,S1)) (hp1:∀ q∈ps1,q)
  (hS:Sat M p0 w0 S a.tmps w) (nextK:∀ a' w',Sat M p0 w0 S1 a'.tmps w'->a'.defers=a.defers->K a' w'):o.wp P a w K Q:=by
 obtain ⟨p,β,hB⟩:=hS;unfold Ao at h1;rw [hg] at h1;simp only at h1;split at h1
 ·rename_i ps' r d hv hd;split at h1 <;> simp only [Ps,Pv,reduceCtorEq] at h1 <;> obtain ⟨rfl,rfl⟩:=h1;rename_i hdn;refine qW hB hss (aN _) hv hp1 K Q (fun v w' p' hS' hle hr=>?_);rw [hd];exact nextK _ w' ⟨p',β,hS'.set (dc hdn) (fe (cm _ _) (cZ (aN _) _ _ hr))⟩ rfl
 ·split at h1
  ·rename_i x hx;injection h1 with h1
   subst h1;split at hx <;> try cases hx
   exact re hB hss hx hp1 K Q nextK
  ·split at h1 <;> try cases h1
   rename_i ps' r d hv hd;split at h1 <;> simp only [Ps,Pv,reduceCtorEq] at h1 <;> obtain ⟨rfl,rfl⟩:=h1;rename_i hdn;refine jE hB hss (aN _) hv hp1 K Q (fun v w' p' hS' hle hr=>?_);rw [hd];exact nextK _ w' ⟨p',β,hS'.set (dc hdn) (fe (cm _ _) (cZ (aN _) _ _ hr))⟩ rfl
theorem LS {S:St} {w0':World} {p:PH} {β:Nat->Value} {a:Act} (hB:SatB M p0 w0 S a.tmps w0' p β) {i:Nat} {o:Oper} (ho:ops[i]?=some o) (he:Ou ops i=true) {ps:List Prop} {r:AV} (h:nQ P ss S [] o=some (ps,r)) :
  o.guard=none/\∃ v,(∀ w,(execOp a.eval o).run P w=.ok (.value v) w)/\r.val p β a.tmps v:=by
 unfold Ou at he;rw [ho] at he;simp only [Px,Option.isNone_iff_eq_none] at he;refine ⟨he.1,?_⟩;have he:=he.2;split at he
 ·rename_i x hop;unfold nQ at h;rw [hop] at h;simp only [Ps,Pv] at h;obtain ⟨_,rfl⟩:=h;exact ⟨a.eval x,fun w=>by simp only [execOp,hop]; rfl,aU hB (aN _) x⟩
 ·rename_i s x k hop;unfold nQ at h;rw [hop] at h;simp only at h;have hx:=aU hB (aN _) x;unfold kF at h;split at h <;> try cases h
  rename_i fs hu;split at h <;> try cases h
  rename_i f hf;split at h <;> try cases h
  rename_i inf hi;split at h
  ·cases h
  rename_i hz;have hz:inf.size≠0:=by intro e; rw [e] at hz; simp at hz
  have run:∀ (w:World) b o,(Instr.fieldAt s (.pointer (some ⟨b,o,none⟩)) k).run P w=.ok (.pointer (some ⟨b,o+f.offset,none⟩)) w:=by
   intro w b o;simp [Instr.fieldAt,PS hu,hf,Instr.sureAddr,fieldPlace,sizeOf,typeInfo,hi,hz,fM]
  have fin:∀ (b o':Nat),a.eval x=.pointer (some ⟨b,o',none⟩)->∀ w,(execOp a.eval o).run P w=.ok (.value (.pointer (some ⟨b,o'+f.offset,none⟩))) w:=by
   intro b o' e w;simp only [execOp,hop,e,PR,run w b o',PL,P2]
  split at h <;> simp only [Ps,Pv,reduceCtorEq] at h <;> obtain ⟨rfl,rfl⟩:=h
  ·rename_i T y off hl;rw [hl] at hx;obtain ⟨b,o',es,e1,hh,hc⟩:=hx;exact ⟨_,fin _ _ e1,b,o',es,by rw [Ru],hh,hc⟩
  ·rename_i d off hl;rw [hl] at hx;obtain ⟨b,e1,e2⟩:=hx;exact ⟨_,fin _ _ e2,b,e1,rfl⟩
  ·rename_i d T n off hl;rw [hl] at hx;obtain ⟨b,e1,e2⟩:=hx;exact ⟨_,fin _ _ e2,b,e1,by rw [Ru]⟩
 ·cases he
theorem zC (hss:ss.okA P M w0) {L:List Nat} {bad:Nat->Bool} (hN:Named L bad) (hdst:∀ o∈ops.toList,∀ d,o.dst=some d->L.contains d=true) {ds:List Deferred} {S0:St} {K:St->Prop} {Q:Exit->Act->World->Prop} (hQp:∀ c a w,¬ Q (.panic c) a w)
  (hQ:∀ S' a' w',K S'->Fr L bad S0 S'->Tidy bad S'->Sat M p0 w0 S' a'.tmps w'->a'.defers=ds->Q .normal a' w') :
  ∀ (fuel:Nat) (listed:Array Bool) (S:St) (a:Act) (w:World),qG P ss ops fuel listed S K->Fr L bad S0 S->Tidy bad S->Sat M p0 w0 S a.tmps w->a.defers=ds->wpAny P .any ops Q fuel listed a w:=by
 intro fuel
 induction fuel with
 | zero =>
  intro listed S a w h hF hT hS hd;unfold qG at h;split at h
  ·rename_i he;exact ⟨List.isEmpty_iff.1 he,hQ S a w h hF hT hS hd⟩
  ·exact h.elim
 | succ fuel ih =>
  intro listed S a w h hF hT hS hd;unfold qG at h;split at h
  ·rename_i he;refine ⟨fun _=>hQ S a w h hF hT hS hd,fun i hi=>?_⟩;rw [List.isEmpty_iff.1 he] at hi;cases hi
  ·rename_i he;split at h
   ·rename_i i hfind;have hi:=List.mem_of_find?_eq_some hfind;have hc:=List.find?_some hfind;simp only [Px] at hc;split at h
    case h_2=>exact h.elim
    rename_i o ho;split at h
    case h_2=>exact h.elim
    rename_i ps r d hev hdo;split at h
    case isFalse=>exact h.elim
    rename_i hb;simp only [Px] at hb;obtain ⟨p,β,hB⟩:=hS;obtain ⟨hg,v,hrun,hv⟩:=LS hB ho hc.1 hev;obtain ⟨hp,h⟩:=qV ps h;have hmem:o∈ops.toList:=QM (show ops.toList[i]?=some o by simpa using ho);refine wpAny_take ho hb.2 hc.2 (by simpa using hi) (fun c a w hq=>absurd hq (hQp c _ w)) (.inl ⟨by simp [Region.wanted,hg],hrun⟩) ?_;rw [hdo];exact ih _ (S.set d (r.opn [])) (a.put (some d) v) w h (hF.trans (iD (hdst o hmem d hdo) _)) (eG hT _ _) ⟨p,β,hB.set (dc hb.1) (fe (cm _ _) (cZ (aN _) _ _ hv))⟩ hd
   refine ⟨fun e=>by rw [e] at he; exact absurd rfl he,fun i hi=>?_⟩;have h:=uW _ h i hi;unfold wpOp;split at h
   ·rename_i o ho;split at h
    ·rename_i hg;have hg:o.guard=none:=by simpa using hg
     split at h
     ·rename_i ps S1 h1;obtain ⟨hp,h⟩:=qV ps h;have hmem:o∈ops.toList:=QM (show ops.toList[i]?=some o by simpa using ho);have hfr:=Ag (L:=L) hN hT (hdst o hmem) h1;simp only [ho];rw [if_pos (by simp [Region.wanted,hg])];refine .inl (LJ hss hg h1 hp hS fun a' w' hS' hd'=>?_);exact ih _ S1 a' w' h (hF.trans hfr.1) hfr.2 hS' (hd'.trans hd)
     ·exact h.elim
    ·exact h.elim
   ·exact h.elim
end
end Go.Proofs.YtmfileeamnfpaaaGreatDoor
