
import Derived.Test.YtcnoiiohmpgckaaReaches
namespace Go.Proofs.Ytcnoiiohmpgckaa
open Go
def aQ (a f l:List Int) (x:Int):Nat:=f.count x+(l.flatMap (ay a)).count x
theorem vt {a f l:List Int} {x:Int}:0<aQ a f l x ↔ x∈f∨∃ y∈l,x∈ay a y:=by
 unfold aQ
 have h1:=List.count_pos_iff (a:=x) (l:=f)
 have h2:=List.count_pos_iff (a:=x) (l:=l.flatMap (ay a))
 rw [List.mem_flatMap] at h2
 rw [← h1,← h2]
 omega
theorem kh (a:List Int) (x:Int):(ay a x).length≤a.length:=by
 unfold ay ch aD
 rw [List.length_map]
 refine Nat.le_trans (List.length_filter_le _ _) ?_
 simp only [List.length_drop,List.length_take]
 omega
theorem b9 (a:List Int) (ha:a.length≤256):∀ (l:List Int),(l.flatMap (ay a)).length≤256 * l.length
 | []=>by simp
 | x::l=>by
  have h1:=kh a x
  have h2:=b9 a ha l
  rw [List.flatMap_cons,List.length_append,List.length_cons]
  omega
theorem n9 {a:List Int} (ha:a.length≤256) (f l:List Int) (x:Int) (hl:l.length≤256):aQ a f l x≤f.length+65536:=by
 have h1:=List.count_le_length (a:=x) (l:=f)
 have h2:=List.count_le_length (a:=x) (l:=l.flatMap (ay a))
 have h3:=b9 a ha l
 unfold aQ
 omega
def uo (a f l:List Int):List Int:=l.filter fun x=>decide (0<aQ a f l x)
def iW (a f:List Int):Nat→List Int→List Int
 | 0,l=>l
 | n+1,l=>if (l.all fun x=>decide (0<aQ a f l x))=true then l else iW a f n (uo a f l)
def sa (a f:List Int):List Int:=iW a f 257 (ab (aa a).1)
def g7 (a f:List Int):List Int:=bv ((ab (aa a).1).filter fun x=>!bp (sa a f) x) 256
def wi (a f l:List Int):Prop:=∀ x∈l,isB (aa a).1 x=true∧0<aQ a f l x
structure Last (a f l:List Int):Prop where
 sup:wi a f l
 all:∀ s,wi a f s→∀ x∈s,x∈l
theorem qe {a f l k:List Int} (h:∀ x∈l,x∈k) {x:Int} (hx:0<aQ a f l x):0<aQ a f k x:=by
 rw [vt] at hx ⊢
 rcases hx with hx | ⟨y,hy,h2⟩
 ·exact .inl hx
 ·exact .inr ⟨y,h y hy,h2⟩
theorem lS {a f:List Int}:∀ (n:Nat) (l:List Int),(∀ s,wi a f s→∀ x∈s,x∈l)→∀ s,wi a f s→∀ x∈s,x∈iW a f n l
 | 0,_,h=>h
 | n+1,l,h=>by
  unfold iW
  split
  ·exact h
  ·refine lS n _ fun s hs x hx=>?_
   exact List.mem_filter.2 ⟨h s hs x hx,decide_eq_true (qe (h s hs) (hs x hx).2)⟩
theorem nV {a f:List Int}:∀ (n:Nat) (l:List Int),∀ x∈iW a f n l,x∈l
 | 0,_,_,h=>h
 | n+1,l,x,h=>by
  unfold iW at h
  split at h
  ·exact h
  ·exact (List.mem_filter.1 (nV n _ x h)).1
theorem nW {a f:List Int}:∀ (n:Nat) (l:List Int),l.length<n→∀ x∈iW a f n l,0<aQ a f (iW a f n l) x
 | 0,_,h=>by omega
 | n+1,l,hl=>by
  unfold iW
  split
  ·rename_i h
   intro x hx
   simpa using List.all_eq_true.1 h x hx
  ·rename_i h
   refine nW n _ ?_
   have:¬ (uo a f l).length=l.length:=fun e=>h (List.all_eq_true.2 fun x hx=>by
    have:=(List.length_filter_eq_length_iff.1 e) x hx
    exact this)
   have h2:=List.length_filter_le (fun x=>decide (0<aQ a f l x)) l
   have h3:(uo a f l).length≤l.length:=h2
   omega
theorem tf (a f:List Int):Last a f (sa a f):=by
 have hl:=aG (aa a).1
 have hs:=aR a
 refine ⟨fun x hx=>⟨?_,nW 257 _ (by omega) x hx⟩,lS 257 _ fun s hs x hx=>?_⟩
 ·have:=nV 257 _ x hx
  rw [← aS]
  exact bi.2 this
 ·have:=(hs x hx).1
  rw [← aS] at this
  exact bi.1 this
theorem Last.uniq {a f l k:List Int} (h:Last a f l) (g:Last a f k) (x:Int):x∈l ↔ x∈k:=⟨g.all l h.sup x,h.all k g.sup x⟩
def aC (a out:List Int):List Int:=(ab (aa a).1).filter fun x=>!bp out x
theorem dK {a out:List Int} {x:Int}:x∈aC a out ↔ isB (aa a).1 x=true∧x ∉ out:=by
 unfold aC
 rw [List.mem_filter,← aS,bi,← bi (l:=out)]
 simp
theorem ks (a out:List Int):(aC a out).length≤256:=by
 have h1:=List.length_filter_le (fun x=>!bp out x) (ab (aa a).1)
 have h2:=aG (aa a).1
 have h3:=aR a
 unfold aC
 omega
theorem pw (a:List Int):(ab (aa a).1).Nodup:=by
 have h:∀ (l:List aH),l.Pairwise (fun s t=>s.1<t.1)→(ab l).Pairwise (·<·):=by
  intro l
  induction l with
  | nil=>intro _; exact List.Pairwise.nil
  | cons s l ih =>
   intro h
   obtain ⟨h1,h2⟩:=List.pairwise_cons.1 h
   have hm:∀ (k:List aH) x,x∈ab k→∃ t∈k,t.1=x:=by
    intro k
    induction k with
    | nil=>intro x hx; cases hx
    | cons t k ihk =>
     intro x hx
     simp only [ab] at hx
     split at hx
     ·obtain ⟨u,hu,e⟩:=ihk x hx
      exact ⟨u,by simp [hu],e⟩
     ·rcases List.mem_cons.1 hx with rfl | hx
      ·exact ⟨t,by simp,rfl⟩
      ·obtain ⟨u,hu,e⟩:=ihk x hx
       exact ⟨u,by simp [hu],e⟩
   simp only [ab]
   split
   ·exact ih h2
   ·refine List.pairwise_cons.2 ⟨fun x hx=>?_,ih h2⟩
    obtain ⟨t,ht,rfl⟩:=hm l x hx
    exact h1 t ht
 exact (h _ (da a)).imp fun h=>by omega
theorem ku (a out:List Int):(aC a out).Nodup:=(pw a).filter _
theorem nZ (l:List Int) (x y:Int):bp (l++[x]) y=(bp l y||decide (y=x)):=by
 unfold bp
 rw [List.any_append]
 simp [eq_comm]
theorem nU (a out:List Int) (x:Int):aC a (out++[x])=(aC a out).filter fun y=>decide (y≠x):=by
 unfold aC
 rw [List.filter_filter]
 congr 1
 funext y
 rw [nZ]
 cases bp out y <;> simp
theorem n5 {o:Int→List Int} {x z:Int}:∀ (l:List Int),l.Nodup→x∈l→(l.flatMap o).count z=((l.filter fun y=>decide (y≠x)).flatMap o).count z+(o x).count z
 | [],_,h=>by cases h
 | y::l,hn,h=>by
  obtain ⟨h1,h2⟩:=List.nodup_cons.1 hn
  rw [List.flatMap_cons,List.count_append]
  by_cases e:y=x
  ·subst e
   rw [List.filter_cons_of_neg (by simp)]
   have:l.filter (fun z=>decide (z≠y))=l:=List.filter_eq_self.2 fun z hz=>decide_eq_true fun e=>h1 (e ▸ hz)
   rw [this]
   omega
  ·rw [List.filter_cons_of_pos (by simpa using e),List.flatMap_cons,List.count_append]
   have hx:x∈l:=by
    rcases List.mem_cons.1 h with h | h
    ·exact absurd h.symm e
    ·exact h
   have:=n5 (o:=o) (z:=z) l h2 hx
   omega
theorem uN {a f out:List Int} {x z:Int} (hx:x∈aC a out):aQ a f (aC a out) z=aQ a f (aC a (out++[x])) z+(ay a x).count z:=by
 unfold aQ
 rw [nU,n5 (aC a out) (ku a out) hx]
 omega
structure Goes (a f out:List Int):Prop where
 nd:out.Nodup
 is:∀ x∈out,isB (aa a).1 x=true
 safe:∀ s,wi a f s→∀ x∈s,x ∉ out
theorem Goes.nil (a f:List Int):Goes a f []:=⟨List.nodup_nil,fun x hx=>(by cases hx),fun _ _ _ _ hx=>by cases hx⟩
theorem Goes.len {a f out:List Int} (h:Goes a f out):out.length≤256:=fy h.nd fun x hx=>cq (h.is x hx)
theorem Goes.snoc {a f out:List Int} (h:Goes a f out) {x:Int} (hx:x∈aC a out) (hz:¬ 0<aQ a f (aC a out) x):Goes a f (out++[x]):=by
 obtain ⟨h1,h2⟩:=dK.1 hx
 refine ⟨?_,fun y hy=>?_,fun s hs y hy hm=>?_⟩
 ·rw [List.nodup_append]
  exact ⟨h.nd,by simp,fun y hy z hz=>by rw [List.mem_singleton.1 hz]; rintro rfl; exact h2 hy⟩
 ·rcases List.mem_append.1 hy with hy | hy
  ·exact h.is y hy
  ·rw [List.mem_singleton.1 hy]; exact h1
 ·rcases List.mem_append.1 hm with hm | hm
  ·exact h.safe s hs y hy hm
  ·have e:=List.mem_singleton.1 hm
   subst e
   exact hz (qe (fun z hz=>dK.2 ⟨(hs z hz).1,h.safe s hs z hz⟩) (hs y hy).2)
theorem Goes.last {a f out:List Int} (h:Goes a f out) (hp:∀ x∈aC a out,0<aQ a f (aC a out) x):Last a f (aC a out) :=
 ⟨fun x hx=>⟨(dK.1 hx).1,hp x hx⟩,fun s hs x hx=>dK.2 ⟨(hs x hx).1,h.safe s hs x hx⟩⟩
theorem Goes.mem {a f out:List Int} (h:Goes a f out) (hp:∀ x∈aC a out,0<aQ a f (aC a out) x) (x:Int):x∈out ↔ x∈g7 a f:=by
 unfold g7
 rw [fM,List.mem_filter,← bi (l:=ab (aa a).1),aS]
 have hu:=(h.last hp).uniq (tf a f) x
 have hk:(!bp (sa a f) x)=true ↔ x ∉ sa a f:=by
  rw [← bi]; simp
 rw [hk,← hu,dK]
 constructor
 ·intro hx
  have h1:=h.is x hx
  have h2:=cq h1
  exact ⟨h2.1,by omega,h1,fun h3=>h3.2 hx⟩
 ·rintro ⟨_,_,h1,h2⟩
  exact Classical.byContradiction fun h3=>h2 ⟨h1,h3⟩
theorem Goes.rising {a f out:List Int} (h:Goes a f out) (hp:∀ x∈aC a out,0<aQ a f (aC a out) x):bv out 256=g7 a f:=by
 refine fw (ed _ _) (ed _ _) fun x=>?_
 rw [fM,h.mem hp]
 exact ⟨fun hx=>hx.2.2,fun hx=>by
  have:=cq (h.is x ((h.mem hp x).2 hx))
  exact ⟨this.1,by omega,hx⟩⟩
theorem Goes.sorted {a f out:List Int} (h:Goes a f out) (hp:∀ x∈aC a out,0<aQ a f (aC a out) x):db out=g7 a f:=by
 refine fw ?_ (ed _ _) (fun x=>by rw [jt]; exact h.mem hp x)
 have h1:=fK out
 have h2:(db out).Nodup:=(List.mergeSort_perm out _).nodup_iff.2 h.nd
 exact (h1.and h2).imp (fun ⟨x,y⟩=>by omega)
def dt (l:List Int) (k:Int):List Int:=l.take k.toNat++l.drop (k.toNat+1)
theorem mo (x:Int):∀ (l:List Int) (k:Nat),k<l.length→l.count x=(l.take k++l.drop (k+1)).count x+(if l.getD k 0=x then 1 else 0)
 | [],k,h=>by simp at h
 | y::l,0,_=>by
  simp only [List.take_zero,List.nil_append,Nat.zero_add,List.drop_succ_cons,List.drop_zero,List.count_cons,List.getD_cons_zero,beq_iff_eq]
 | y::l,k+1,h=>by
  have:=mo x l k (by simpa using h)
  simp only [List.take_succ_cons,List.drop_succ_cons,List.cons_append,List.count_cons,List.getD_cons_succ]
  omega
theorem sZ {l:List Int} (hn:l.Nodup) {k:Nat} (hk:k<l.length):l.take k++l.drop (k+1)=l.filter fun y=>decide (y≠l.getD k 0):=by
 induction l generalizing k with
 | nil=>simp at hk
 | cons y l ih =>
  obtain ⟨h1,h2⟩:=List.nodup_cons.1 hn
  cases k with
  | zero =>
   simp only [List.take_zero,List.nil_append,Nat.zero_add,List.drop_succ_cons,List.drop_zero,List.getD_cons_zero]
   rw [List.filter_cons_of_neg (by simp)]
   exact (List.filter_eq_self.2 fun z hz=>decide_eq_true (show z≠y from fun e=>h1 (e ▸ hz))).symm
  | succ k =>
   have hk:k<l.length:=by simpa using hk
   simp only [List.take_succ_cons,List.drop_succ_cons,List.cons_append,List.getD_cons_succ]
   have hm:l.getD k 0∈l:=by simp [hk]
   have hy:decide (y≠l.getD k 0)=true:=decide_eq_true fun e=>h1 (e.symm ▸ hm)
   rw [List.filter_cons_of_pos (p:=fun y=>decide (y≠l.getD k 0)) hy,ih h2 hk]
theorem f0 {α:Type} (n:Int) (y:α):∀ (m:List (Int×α)),(aM (m.map fun e=>(e.1,some e.2)) n none).map (fun e=>(e.1,e.2.getD y))=aM m n y
 | []=>rfl
 | x::m=>by
  have ih:=f0 n y m
  simp only [List.map_cons,aM]
  split
  ·have:(m.map fun e=>(e.1,some e.2)).map (fun e:Int×Option α=>(e.1,e.2.getD y))=m:=by
    rw [List.map_map]
    conv=>rhs; rw [← List.map_id m]
    rfl
   simp only [List.map_cons,this,Option.getD_none]
  ·simp only [List.map_cons,ih,Option.getD_some]
def aY (l:List Int):List Int:=(l.filter fun v=>decide (v≠0)).map (· - 1)
theorem ic (l:List Int) (v:Int):aY (l++[v])=aY l++(if v=0 then [] else [v - 1]):=by
 unfold aY
 rw [List.filter_append,List.map_append]
 by_cases h:v=0 <;> simp [h]
def a8 (a f:List Int):List Int×Int:=if an a f≠0 then ([],an a f) else ((ab (aa a).1).map fun x=>(aQ a f (ab (aa a).1) x:Int),0)
def oO (a f:List Int):List Int:=(ab (aa a).1).filter fun x=>decide (0<aQ a f (ab (aa a).1) x)&&!bp (cp a f) x
def bM (a f:List Int):List Int×Int:=if an a f≠0 then ([],an a f) else (oO a f,0)
def bD (a f:List Int) (k:Int):List Int×Int:=if an a f≠0 then ([],an a f) else if k<0∨(f.length:Int)≤k then ([],4) else (g7 a (dt f k),0)
theorem rf {l:List aH} (h:l.Pairwise (fun s t=>s.1<t.1)) {s t:aH} (hs:s∈l) (ht:t∈l) (e:s.1=t.1):s=t:=by
 induction l with
 | nil=>cases hs
 | cons z l ih =>
  obtain ⟨h1,h2⟩:=List.pairwise_cons.1 h
  rcases List.mem_cons.1 hs with e1 | hs1
  ·rcases List.mem_cons.1 ht with e2 | ht1
   ·exact e1.trans e2.symm
   ·have:=h1 t ht1
    rw [← e1] at this
    omega
  ·rcases List.mem_cons.1 ht with e2 | ht1
   ·have:=h1 s hs1
    rw [← e2] at this
    omega
   ·exact ih h2 hs1 ht1
theorem gk {a:List Int} {s:aH} (hs:s∈(aa a).1) (hf:s.2.2.2.2=false):isB (aa a).1 s.1=true∧s.2=mG a s.1:=by
 have hm:∀ (l:List aH),s∈l→s.1∈ab l:=by
  intro l
  induction l with
  | nil=>intro h; cases h
  | cons z l ih =>
   intro h
   simp only [ab]
   rcases List.mem_cons.1 h with rfl | h
   ·rw [if_neg (by rw [hf]; simp)]; simp
   ·split
    ·exact ih h
    ·exact List.mem_cons_of_mem _ (ih h)
 have hb:isB (aa a).1 s.1=true:=by
  rw [← aS]
  exact bi.2 (hm _ hs)
 exact ⟨hb,congrArg Prod.snd (rf (da a) hs (er hb).1 rfl)⟩
theorem fB {mm mm2:List (Int×Int)} {q:List Int} {k:Int} (h:∀ x,(ae mm2 x).getD 0=(ae mm x).getD 0+(q.count x:Int)):∀ x,(ae (aM mm2 k ((ae mm2 k).getD 0+1)) x).getD 0=(ae mm x).getD 0+((q++[k]).count x:Int):=by
 intro x
 rw [cH,List.count_append,List.count_singleton]
 by_cases e:x=k
 ·subst e
  rw [if_pos rfl,Option.getD_some,h x]
  simp
  omega
 ·rw [if_neg e,h x]
  have:(k == x)=false:=by simpa using Ne.symm e
  rw [this]
  simp
theorem ui {mm mm2:List (Int×Int)} {q:List Int} {k:Int} (h:∀ x,(ae mm2 x).getD 0=(ae mm x).getD 0 - (q.count x:Int)):∀ x,(ae (aM mm2 k ((ae mm2 k).getD 0 - 1)) x).getD 0=(ae mm x).getD 0 - ((q++[k]).count x:Int):=by
 intro x
 rw [cH,List.count_append,List.count_singleton]
 by_cases e:x=k
 ·subst e
  rw [if_pos rfl,Option.getD_some,h x]
  simp
  omega
 ·rw [if_neg e,h x]
  have:(k == x)=false:=by simpa using Ne.symm e
  rw [this]
  simp
theorem lx {mr:List (Int×List Int)} {o a:List Int} {n:Int} (h:∀ x,ae mr x=if bp o x=true then some (ay a x) else none):∀ x,ae (aM mr n (ay a n)) x=if bp (o++[n]) x=true then some (ay a x) else none:=by
 intro x
 rw [cH,nZ]
 by_cases e:x=n
 ·subst e
  rw [if_pos rfl,decide_eq_true rfl,Bool.or_true,if_pos rfl]
 ·rw [if_neg e,h x,decide_eq_false e,Bool.or_false]
end Go.Proofs.Ytcnoiiohmpgckaa
