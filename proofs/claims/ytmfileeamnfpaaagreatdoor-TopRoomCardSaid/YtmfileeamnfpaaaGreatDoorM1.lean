import Derived.Test.YtmfileeamnfpaaaGreatDoorEG6
import Derived.Test.YtmfileeamnfpaaaGreatDoorRows
import Derived.Lib.SplitLaws
import Derived.Lib.AtoiAll
import Derived.Lib.ItoaNum
import Derived.WalkKit
import Derived.Lib.ItoaLen
import Derived.Shelf.Strings.Split
import Derived.Shelf.Strings.SplitCore
import Derived.Shelf.Strings.Search3
import Derived.Shelf.Strconv.Itoa3
import Derived.Shelf.Strconv.AtoiAll
import Derived.Shelf.Sort.Plain
import Derived.Shelf.Slices.In.SortNone
import Derived.Shelf.Slices.CompactI
import Derived.Sort.OwnSortedInts
namespace Go.Proofs.YtmfileeamnfpaaaGreatDoor
open Go
set_option maxRecDepth 100000
set_option maxHeartbeats 1000000
section
def KJ:List (Nat×Spec)->FuncId->Option Spec
 | [],_=>none
 | e::l,f=>if Nat.beq e.1 f then some e.2 else KJ l f
def KI:List (Nat×TFn)->FuncId->Option TFn
 | [],_=>none
 | e::l,f=>if Nat.beq e.1 f then some e.2 else KI l f
def KK (l:List (Nat×Spec)) (r:List (Nat×TFn):=[]):Specs:={ fn:=KJ l,row:=KI r }
theorem ap:(KK []).ok Tryz.prog:=by
 refine ⟨rfl,?_,?_⟩
 ·intro f s h;cases h
 ·intro f s h;cases h
theorem Aw {P:Program} {f:Nat} {s:TFn} {r:List (Nat×TFn)} (h:s.ok P f) (hl:(KK [] r).ok P):(KK [] ((f,s)::r)).ok P:=by
 refine ⟨hl.1,hl.2.1,?_⟩;intro g t e;have e:KI ((f,s)::r) g=some t:=e;unfold KI at e;split at e
 ·rename_i he;have he:=Nz he;injection e with e
  subst e;simp only at he;subst he;exact h
 ·exact hl.2.2 g t e
theorem kY {P:Program} {f:Nat} {s:RowFn} {r:List (Nat×TFn)} (h:s.ok P f) (hl:(KK [] r).ok P):(KK [] ((f,.row s)::r)).ok P:=Aw (s:=.row s) h hl
theorem Fg {P:Program} {f:Nat} {s:BoxFn} {r:List (Nat×TFn)} (h:s.ok P f) (hl:(KK [] r).ok P):(KK [] ((f,.box s)::r)).ok P:=Aw (s:=.box s) h hl
theorem ae {P:Program} {f:Nat} {s:Spec} {l:List (Nat×Spec)} {r:List (Nat×TFn)} (h:s.ok P f) (hl:(KK l r).ok P):(KK ((f,s)::l) r).ok P:=by
 refine ⟨hl.1,?_,hl.2.2⟩;intro g t e;have e:KJ ((f,s)::l) g=some t:=e;unfold KJ at e;split at e
 ·rename_i he;have he:=Nz he;injection e with e
  subst e;simp only at he;subst he;exact h
 ·exact hl.2.1 g t e
theorem aF {ss:Specs} {ann:Nat->Option LoopGen} {f:FuncId} {fn:Func} {s:Spec} {pv:Prop} (hss:ss.ok Tryz.prog) (hfn:Tryz.prog.funcs[f]?=some fn) (e:pv=MA Tryz.prog ss ann fn s) (h:pv):s.ok Tryz.prog f:=JY hss hfn (e.mp h)
def im:(T:Ty)->T.den->Prop
 | .arr T,xs=>(show List T.den from xs).length * T.bytes<=140737488351232/\∀ x∈(show List T.den from xs),im T x
 | .pair A B,x=>im A x.1/\im B x.2
 | .str,s=>s.length<=140737488351232
 | .int _,_=>True
 | .bool,_=>True
 | .nil,_=>True
 | .ref _,_=>True
 | .fn _ _,_=>True
 | .map _ _,_=>True
def l8:(Ts:List Ty)->fT Ts->Prop
 | [],_=>True
 | [T],x=>im T x
 | T::U::Ts,x=>im T x.1/\l8 (U::Ts) x.2
def IW (Ts:List Ty):Spec:={ Ts:=Ts,Rs:=[.dat .bool],pre:=l8 Ts,F:=fun _=>(true:Bool) }
def gO (B:Nat):(T:Ty)->T.den->Prop
 | .arr T,xs=>(show List T.den from xs).length<=B/\∀ x∈(show List T.den from xs),gO B T x
 | .pair A C,x=>gO B A x.1/\gO B C x.2
 | .str,s=>s.length<=B
 | .int _,_=>True
 | .bool,_=>True
 | .nil,_=>True
 | .ref _,_=>True
 | .fn _ _,_=>True
 | .map _ _,_=>True
def p7 (B:Nat):(Ts:List Ty)->fT Ts->Prop
 | [],_=>True
 | [T],x=>gO B T x
 | T::U::Ts,x=>gO B T x.1/\p7 B (U::Ts) x.2
def cr:Nat->Option LoopGen:=fun _=>none
abbrev ty_I:Ty:=.int .i64
abbrev bJ:Ty:=.int .u64
abbrev gc:Ty:=.pair ty_I (.pair ty_I (.pair ty_I .bool))
abbrev DA:Ty:=.pair ty_I (.pair (.arr ty_I) (.pair (.arr bJ) .bool))
abbrev Obj:=Int×List Int×List Int×Bool
theorem fP {n:Int} (h:0<=n) (h2:n<=18446744073709551615):IntKind.u64.wrap n=n:=dl (k:=.u64) ⟨h,h2⟩
theorem m4 {n:Int} (h:-9223372036854775808<=n) (h2:n<=9223372036854775807):IntKind.i64.wrap n=n:=dl (k:=.i64) ⟨h,h2⟩
theorem Nc:((IntKind.u64.bits:Nat):Int)=64:=rfl
theorem sD {a b:Int} {i:Nat} (ha:0<=a) (hb:0<=b) (h:a<2 ^ i):((a.toNat ||| (b * 2 ^ i).toNat:Nat):Int)=a+b * 2 ^ i:=by
 obtain ⟨m,rfl⟩:=Oz ha;obtain ⟨n,rfl⟩:=Oz hb;have h1:m<2 ^ i:=by exact_mod_cast h
 have e:((n:Int) * 2 ^ i).toNat=n * 2 ^ i:=by
  have:((n:Int) * 2 ^ i)=((n * 2 ^ i:Nat):Int):=by push_cast; rfl
  rw [this,Oo]
 rw [e,Oo,Nat.or_comm,Nat.mul_comm n,<- Nat.two_pow_add_eq_or_of_lt h1 n]
 push_cast
 rw [Int.add_comm,Int.mul_comm]
theorem ml {a:Int} (ha:0<=a) (i:Nat):((a.toNat &&& (2 ^ i - 1):Nat):Int)=a % 2 ^ i:=by
 obtain ⟨m,rfl⟩:=Oz ha;rw [Nat.and_two_pow_sub_one_eq_mod]
 push_cast
 rw [Oo]
theorem y5 (m i:Nat):m &&& 2 ^ i=m / 2 ^ i % 2 * 2 ^ i:=by
 apply Nat.eq_of_testBit_eq;intro j;rw [Nat.testBit_and,Nat.testBit_two_pow]
 have key:m / 2 ^ i % 2=(m.testBit i).toNat:=by
  rw [Nat.testBit_eq_decide_div_mod_eq];rcases Nat.mod_two_eq_zero_or_one (m / 2 ^ i) with h | h <;> simp [h]
 rw [key];by_cases hij:i=j
 ·subst hij;cases h:m.testBit i <;> simp
 ·cases h:m.testBit i <;> simp [hij]
theorem JJ {a:Int} (ha:0<=a) (i:Nat):((a.toNat &&& 2 ^ i:Nat):Int)=a / 2 ^ i % 2 * 2 ^ i:=by
 obtain ⟨m,rfl⟩:=Oz ha;rw [Oo,y5]
 push_cast
 rfl
theorem bz {α:Type} {xs:List α} (d:α) {i:Int} (h0:0<=i) (h:i<(xs.length:Int)):xs.drop i.toNat=xs.getD i.toNat d::xs.drop (i+1).toNat:=by
 have hi:i.toNat<xs.length:=by omega
 rw [OH hi,show (i+1).toNat=i.toNat+1 by omega];simp [hi]
theorem cq {α:Type} {xs:List α} {i:Int} (h:¬ i<(xs.length:Int)):xs.drop i.toNat=[]:=by
 rw [List.drop_eq_nil_iff]; omega
theorem bx {α:Type} {xs:List α} (d:α) {i:Int} (h0:0<=i) (h:i<(xs.length:Int)):xs.take (i+1).toNat=xs.take i.toNat++[xs.getD i.toNat d]:=by
 have hi:i.toNat<xs.length:=by omega
 rw [show (i+1).toNat=i.toNat+1 by omega,Ol hi];simp [hi]
theorem cn {α:Type} {xs:List α} {i:Int} (h:¬ i<(xs.length:Int)):xs.take i.toNat=xs:=by
 rw [NP]; omega
theorem aH {α:Type} {xs:List α} (d:α) {i:Int} (h0:0<=i) (h:i<(xs.length:Int)):xs.getD i.toNat d∈xs:=by
 have hi:i.toNat<xs.length:=by omega
 simp [hi]
end
section
def aj:List UInt8->List (List UInt8)
 | []=>[[]]
 | c::r=>if c=32 then []::aj r else match aj r with
  | []=>[[c]]
  | p::ps=>(c::p)::ps
theorem wB:∀ s,aj s≠[]
 | []=>by simp [aj]
 | c::r=>by
  unfold aj;split
  ·simp
  ·split <;> simp
theorem l7:∀ s:List UInt8,Lib.indexByte s 32=-1->aj s=[s]
 | [],_=>rfl
 | c::r,h=>by
  unfold Lib.indexByte at h
  have hc:c≠32:=by
   intro e;rw [if_pos (by simp [e])] at h;cases h
  have hr:Lib.indexByte r 32=-1:=by
   rw [if_neg (by simp [hc])] at h;split at h
   ·rename_i h1;simpa using h1
   ·have:=Lib.indexByte_ge r 32;omega
  unfold aj;rw [if_neg hc,l7 r hr]
theorem lZ:∀ (s:List UInt8) (i:Nat),Lib.indexByte s 32=i->aj s=s.take i::aj (s.drop (i+1))/\(s.drop (i+1)).count 32+1=s.count 32
 | [],i,h=>by
  simp only [Lib.indexByte] at h;omega
 | c::r,i,h=>by
  unfold Lib.indexByte at h;by_cases hc:c=32
  ·rw [if_pos (by simp [hc])] at h;obtain rfl:i=0:=by omega
   subst hc;rw [aj,if_pos rfl];simp
  ·rw [if_neg (by simp [hc])] at h;split at h
   ·omega
   ·rename_i hn;have hr:=Lib.indexByte_ge r 32;have hr':Lib.indexByte r 32≠-1:=by simpa using hn
    obtain ⟨j,hj⟩:=Oz (show 0<=Lib.indexByte r 32 by omega);obtain ⟨h1,h2⟩:=lZ r j hj;obtain rfl:i=j+1:=by omega
    refine ⟨?_,?_⟩
    ·rw [aj,if_neg hc,h1];simp
    ·rw [List.count_cons_of_ne hc];simpa using h2
theorem wC:∀ (k:Nat) (s:List UInt8),s.count 32=k->Lib.splitK [32] 0 k s=aj s
 | 0,s,h=>by
  have hi:Lib.indexByte s 32=-1:=by
   apply Ok;intro hn;have:=Lib.indexByte_ge s 32;obtain ⟨j,hj⟩:=Oz (show 0<=Lib.indexByte s 32 by omega);have:=(lZ s j hj).2;omega
  rw [l7 s hi];rfl
 | k+1,s,h=>by
  unfold Lib.splitK;rw [Lib.index_one];by_cases hi:Lib.indexByte s 32=-1
  ·rw [if_pos (by simp [hi]),l7 s hi]
  ·have:=Lib.indexByte_ge s 32;obtain ⟨j,hj⟩:=Oz (show 0<=Lib.indexByte s 32 by omega);obtain ⟨h1,h2⟩:=lZ s j hj;rw [if_neg (by simp [hi]),h1,hj];simp only [Oo,OW,NC,N8,Ox];rw [wC k _ (by omega)]
def fH (s:List UInt8):Int×Bool:=match Lib.atoiAll s with
 | .ok v=>(v,decide (-1000000000000000<v/\v<1000000000000000/\Lib.itoa v=s))
 | .range=>(Lib.atoiSat s,false)
 | _=>(0,false)
end
section
open Go Go.RowKit Go.Shelf
set_option maxHeartbeats 4000000
def vT:Go.Shelf.Ren:=⟨fun | 146=>185 | 221=>236 | 268=>258 | 138=>259 | 143=>260 | 195=>274 | 197=>275 | 218=>276 | 219=>277 | 260=>291 | 217=>292 | 225=>293 | 224=>294 | 267=>295 | 266=>301 | 314=>302 | n=>n,fun | 9=>9 | 31=>22 | 3=>3 | 4=>4 | 0=>0 | 105=>342 | 21=>21 | 5=>5 | 46=>182 | 119=>361 | 139=>364 | 138=>363 | 146=>283 | 51=>267 | n=>n,fun | 1=>2 | 3=>5 | 4=>6 | n=>n⟩
theorem HJ:Go.Proofs.Lays.n146 Tryz.prog vT where
 mixed:=by kernel_rfl
 f138:=Tryz.func259.trans (congrArg some (by kernel_rfl))
 f143:=Tryz.func260.trans (congrArg some (by kernel_rfl))
 f146:=Tryz.func185.trans (congrArg some (by kernel_rfl))
 f195:=Tryz.func274.trans (congrArg some (by kernel_rfl))
 f197:=Tryz.func275.trans (congrArg some (by kernel_rfl))
 f217:=Tryz.func292.trans (congrArg some (by kernel_rfl))
 f218:=Tryz.func276.trans (congrArg some (by kernel_rfl))
 f219:=Tryz.func277.trans (congrArg some (by kernel_rfl))
 f221:=Tryz.func236.trans (congrArg some (by kernel_rfl))
 f224:=Tryz.func294.trans (congrArg some (by kernel_rfl))
 f225:=Tryz.func293.trans (congrArg some (by kernel_rfl))
 f260:=Tryz.func291.trans (congrArg some (by kernel_rfl))
 f266:=Tryz.func301.trans (congrArg some (by kernel_rfl))
 f267:=Tryz.func295.trans (congrArg some (by kernel_rfl))
 f268:=Tryz.func258.trans (congrArg some (by kernel_rfl))
 f314:=Tryz.func302.trans (congrArg some (by kernel_rfl))
 t0:=PV
 a0:=Tryz.isAgg0
 z0:=Tryz.sizeOf0
 v0:=P4
 t3:=PU
 a3:=Tryz.isAgg3
 z3:=Tryz.sizeOf3
 v3:=P3
 t4:=Pw
 a4:=Tryz.isAgg4
 z4:=Tryz.sizeOf4
 v4:=P2
 t5:=Tryz.underlying5
 a5:=Tryz.isAgg5
 z5:=Tryz.sizeOf5
 v5:=Tryz.zeroValue5
 t9:=Tryz.underlying9
 a9:=Tryz.isAgg9
 z9:=Tryz.sizeOf9
 v9:=Tryz.zeroValue9
 t21:=Tryz.underlying21
 a21:=Tryz.isAgg21
 z21:=Tryz.sizeOf21
 v21:=Tryz.zeroValue21
 t31:=Tryz.underlying22
 a31:=Tryz.isAgg22
 z31:=Tryz.sizeOf22
 v31:=Tryz.zeroValue22
 t46:=Qb
 a46:=Tryz.isAgg182
 z46:=Tryz.sizeOf182
 v46:=Qe
 t51:=Qa
 a51:=Tryz.isAgg267
 z51:=Tryz.sizeOf267
 v51:=Qd
 t105:=Tryz.underlying342
 a105:=Tryz.isAgg342
 z105:=Tryz.sizeOf342
 v105:=Tryz.zeroValue342
 t119:=Tryz.underlying361
 a119:=Tryz.isAgg361
 z119:=Tryz.sizeOf361
 t138:=Tryz.underlying363
 a138:=Tryz.isAgg363
 z138:=Tryz.sizeOf363
 v138:=Tryz.zeroValue363
 t139:=Tryz.underlying364
 a139:=Tryz.isAgg364
 z139:=Tryz.sizeOf364
 v139:=Tryz.zeroValue364
 t146:=Tryz.underlying283
 a146:=Tryz.isAgg283
 z146:=Tryz.sizeOf283
 v146:=Tryz.zeroValue283
 g1:=by kernel_rfl
 g3:=by kernel_rfl
 g4:=by kernel_rfl
def za:Go.Shelf.Ren:=⟨fun | 171=>110 | 243=>188 | 246=>243 | 283=>264 | 284=>265 | 285=>266 | 286=>267 | 129=>184 | 317=>283 | 318=>284 | 319=>285 | 320=>286 | 337=>299 | 338=>300 | n=>n,fun | 3=>3 | 9=>9 | 2=>2 | 4=>4 | 171=>336 | 0=>0 | 53=>45 | 37=>148 | 5=>5 | 173=>338 | 212=>353 | 51=>267 | 20=>20 | 213=>354 | 46=>182 | 232=>371 | 233=>372 | n=>n,fun | 17=>1 | 18=>7 | 19=>8 | n=>n⟩
theorem JI:Go.Proofs.LaysM.n171 Tryz.prog za where
 mixed:=by kernel_rfl
 f129:=Tryz.func184.trans (congrArg some (by kernel_rfl))
 f171:=Tryz.func110.trans (congrArg some (by kernel_rfl))
 f243:=Tryz.func188.trans (congrArg some (by kernel_rfl))
 f246:=Tryz.func243.trans (congrArg some (by kernel_rfl))
 f283:=Tryz.func264.trans (congrArg some (by kernel_rfl))
 f284:=Tryz.func265.trans (congrArg some (by kernel_rfl))
 f285:=Tryz.func266.trans (congrArg some (by kernel_rfl))
 f286:=Tryz.func267.trans (congrArg some (by kernel_rfl))
 f317:=Tryz.func283.trans (congrArg some (by kernel_rfl))
 f318:=Tryz.func284.trans (congrArg some (by kernel_rfl))
 f319:=Tryz.func285.trans (congrArg some (by kernel_rfl))
 f320:=Tryz.func286.trans (congrArg some (by kernel_rfl))
 f337:=Tryz.func299.trans (congrArg some (by kernel_rfl))
 f338:=Tryz.func300.trans (congrArg some (by kernel_rfl))
 t0:=PV
 a0:=Tryz.isAgg0
 z0:=Tryz.sizeOf0
 v0:=P4
 t2:=Tryz.underlying2
 a2:=Tryz.isAgg2
 z2:=Tryz.sizeOf2
 v2:=Tryz.zeroValue2
 t3:=PU
 a3:=Tryz.isAgg3
 z3:=Tryz.sizeOf3
 v3:=P3
 t4:=Pw
 a4:=Tryz.isAgg4
 z4:=Tryz.sizeOf4
 v4:=P2
 t5:=Tryz.underlying5
 a5:=Tryz.isAgg5
 z5:=Tryz.sizeOf5
 v5:=Tryz.zeroValue5
 t9:=Tryz.underlying9
 a9:=Tryz.isAgg9
 z9:=Tryz.sizeOf9
 v9:=Tryz.zeroValue9
 t20:=Tryz.underlying20
 a20:=Tryz.isAgg20
 z20:=Tryz.sizeOf20
 v20:=Tryz.zeroValue20
 t37:=Tryz.underlying148
 a37:=Tryz.isAgg148
 z37:=Tryz.sizeOf148
 v37:=Tryz.zeroValue148
 t46:=Qb
 a46:=Tryz.isAgg182
 z46:=Tryz.sizeOf182
 v46:=Qe
 t51:=Qa
 a51:=Tryz.isAgg267
 z51:=Tryz.sizeOf267
 v51:=Qd
 t53:=Qf
 a53:=Tryz.isAgg45
 z53:=Tryz.sizeOf45
 v53:=Tryz.zeroValue45
 t171:=Tryz.underlying336
 a171:=Tryz.isAgg336
 z171:=Tryz.sizeOf336
 v171:=Tryz.zeroValue336
 t173:=Tryz.underlying338
 a173:=Tryz.isAgg338
 z173:=Tryz.sizeOf338
 v173:=Tryz.zeroValue338
 t212:=Tryz.underlying353
 a212:=Tryz.isAgg353
 z212:=Tryz.sizeOf353
 v212:=Tryz.zeroValue353
 t213:=Tryz.underlying354
 a213:=Tryz.isAgg354
 z213:=Tryz.sizeOf354
 t232:=Tryz.underlying371
 a232:=Tryz.isAgg371
 z232:=Tryz.sizeOf371
 v232:=Tryz.zeroValue371
 t233:=Tryz.underlying372
 a233:=Tryz.isAgg372
 z233:=Tryz.sizeOf372
 v233:=Tryz.zeroValue372
 g17:=by kernel_rfl
 g18:=by kernel_rfl
 g19:=by kernel_rfl
 i0:=by kernel_rfl
 i2:=by kernel_rfl
 i3:=by kernel_rfl
 i4:=by kernel_rfl
 i5:=by kernel_rfl
 i9:=by kernel_rfl
 i20:=by kernel_rfl
 i37:=by kernel_rfl
 i46:=by kernel_rfl
 i51:=by kernel_rfl
 i53:=by kernel_rfl
 i171:=by kernel_rfl
 i173:=by kernel_rfl
 i212:=by kernel_rfl
 i232:=by kernel_rfl
 i233:=by kernel_rfl
 m17:=by kernel_rfl
 m18:=by kernel_rfl
 m19:=by kernel_rfl
def zb:Go.Shelf.Ren:=⟨fun | 172=>242 | 244=>262 | 245=>263 | 247=>278 | 279=>279 | 280=>280 | 281=>281 | 282=>282 | 287=>296 | 316=>297 | 171=>110 | 205=>298 | 321=>303 | 322=>304 | 243=>188 | 246=>243 | 283=>264 | 284=>265 | 285=>266 | 286=>267 | 129=>184 | 317=>283 | 318=>284 | 319=>285 | 320=>286 | 337=>299 | 338=>300 | n=>n,fun | 9=>9 | 3=>3 | 75=>314 | 76=>315 | 4=>4 | 5=>5 | 167=>345 | 37=>148 | 0=>0 | 85=>346 | 2=>2 | 168=>348 | 53=>45 | 175=>356 | 46=>182 | 210=>359 | 127=>367 | 145=>370 | 143=>368 | 21=>21 | 171=>336 | 173=>338 | 212=>353 | 51=>267 | 20=>20 | 213=>354 | 232=>371 | 233=>372 | 80=>373 | n=>n,fun | 15=>3 | 16=>4 | 17=>1 | 18=>7 | 19=>8 | n=>n⟩
theorem ui:Go.Proofs.LaysC.n172 Tryz.prog zb where
 mixed:=by kernel_rfl
 f129:=Tryz.func184.trans (congrArg some (by kernel_rfl))
 f171:=Tryz.func110.trans (congrArg some (by kernel_rfl))
 f172:=Tryz.func242.trans (congrArg some (by kernel_rfl))
 f205:=Tryz.func298.trans (congrArg some (by kernel_rfl))
 f243:=Tryz.func188.trans (congrArg some (by kernel_rfl))
 f244:=Tryz.func262.trans (congrArg some (by kernel_rfl))
 f245:=Tryz.func263.trans (congrArg some (by kernel_rfl))
 f246:=Tryz.func243.trans (congrArg some (by kernel_rfl))
 f247:=Tryz.func278.trans (congrArg some (by kernel_rfl))
 f279:=Tryz.func279.trans (congrArg some (by kernel_rfl))
 f280:=Tryz.func280.trans (congrArg some (by kernel_rfl))
 f281:=Tryz.func281.trans (congrArg some (by kernel_rfl))
 f282:=Tryz.func282.trans (congrArg some (by kernel_rfl))
 f283:=Tryz.func264.trans (congrArg some (by kernel_rfl))
 f284:=Tryz.func265.trans (congrArg some (by kernel_rfl))
 f285:=Tryz.func266.trans (congrArg some (by kernel_rfl))
 f286:=Tryz.func267.trans (congrArg some (by kernel_rfl))
 f287:=Tryz.func296.trans (congrArg some (by kernel_rfl))
 f316:=Tryz.func297.trans (congrArg some (by kernel_rfl))
 f317:=Tryz.func283.trans (congrArg some (by kernel_rfl))
 f318:=Tryz.func284.trans (congrArg some (by kernel_rfl))
 f319:=Tryz.func285.trans (congrArg some (by kernel_rfl))
 f320:=Tryz.func286.trans (congrArg some (by kernel_rfl))
 f321:=Tryz.func303.trans (congrArg some (by kernel_rfl))
 f322:=Tryz.func304.trans (congrArg some (by kernel_rfl))
 f337:=Tryz.func299.trans (congrArg some (by kernel_rfl))
 f338:=Tryz.func300.trans (congrArg some (by kernel_rfl))
 t0:=PV
 a0:=Tryz.isAgg0
 z0:=Tryz.sizeOf0
 v0:=P4
 t2:=Tryz.underlying2
 a2:=Tryz.isAgg2
 z2:=Tryz.sizeOf2
 v2:=Tryz.zeroValue2
 t3:=PU
 a3:=Tryz.isAgg3
 z3:=Tryz.sizeOf3
 v3:=P3
 t4:=Pw
 a4:=Tryz.isAgg4
 z4:=Tryz.sizeOf4
 v4:=P2
 t5:=Tryz.underlying5
 a5:=Tryz.isAgg5
 z5:=Tryz.sizeOf5
 v5:=Tryz.zeroValue5
 t9:=Tryz.underlying9
 a9:=Tryz.isAgg9
 z9:=Tryz.sizeOf9
 v9:=Tryz.zeroValue9
 t20:=Tryz.underlying20
 a20:=Tryz.isAgg20
 z20:=Tryz.sizeOf20
 v20:=Tryz.zeroValue20
 t21:=Tryz.underlying21
 a21:=Tryz.isAgg21
 z21:=Tryz.sizeOf21
 v21:=Tryz.zeroValue21
 t37:=Tryz.underlying148
 a37:=Tryz.isAgg148
 z37:=Tryz.sizeOf148
 v37:=Tryz.zeroValue148
 t46:=Qb
 a46:=Tryz.isAgg182
 z46:=Tryz.sizeOf182
 v46:=Qe
 t51:=Qa
 a51:=Tryz.isAgg267
 z51:=Tryz.sizeOf267
 v51:=Qd
 t53:=Qf
 a53:=Tryz.isAgg45
 z53:=Tryz.sizeOf45
 v53:=Tryz.zeroValue45
 t75:=Tryz.underlying314
 a75:=Tryz.isAgg314
 z75:=Tryz.sizeOf314
 v75:=Tryz.zeroValue314
 t76:=Tryz.underlying315
 a76:=Tryz.isAgg315
 z76:=Tryz.sizeOf315
 v76:=Tryz.zeroValue315
 t85:=Tryz.underlying346
 a85:=Tryz.isAgg346
 z85:=Tryz.sizeOf346
 v85:=Tryz.zeroValue346
 t127:=Tryz.underlying367
 a127:=Tryz.isAgg367
 z127:=Tryz.sizeOf367
 v127:=Tryz.zeroValue367
 t143:=Tryz.underlying368
 a143:=Tryz.isAgg368
 z143:=Tryz.sizeOf368
 v143:=Tryz.zeroValue368
 t145:=Tryz.underlying370
 a145:=Tryz.isAgg370
 z145:=Tryz.sizeOf370
 v145:=Tryz.zeroValue370
 t167:=Tryz.underlying345
 a167:=Tryz.isAgg345
 z167:=Tryz.sizeOf345
 v167:=Tryz.zeroValue345
 t168:=Tryz.underlying348
 a168:=Tryz.isAgg348
 z168:=Tryz.sizeOf348
 v168:=Tryz.zeroValue348
 t171:=Tryz.underlying336
 a171:=Tryz.isAgg336
 z171:=Tryz.sizeOf336
 v171:=Tryz.zeroValue336
 t173:=Tryz.underlying338
 a173:=Tryz.isAgg338
 z173:=Tryz.sizeOf338
 v173:=Tryz.zeroValue338
 t175:=Tryz.underlying356
 a175:=Tryz.isAgg356
 z175:=Tryz.sizeOf356
 v175:=Tryz.zeroValue356
 t210:=Tryz.underlying359
 a210:=Tryz.isAgg359
 z210:=Tryz.sizeOf359
 v210:=Tryz.zeroValue359
 t212:=Tryz.underlying353
 a212:=Tryz.isAgg353
 z212:=Tryz.sizeOf353
 v212:=Tryz.zeroValue353
 t213:=Tryz.underlying354
 a213:=Tryz.isAgg354
 z213:=Tryz.sizeOf354
 t232:=Tryz.underlying371
 a232:=Tryz.isAgg371
 z232:=Tryz.sizeOf371
 v232:=Tryz.zeroValue371
 t233:=Tryz.underlying372
 a233:=Tryz.isAgg372
 z233:=Tryz.sizeOf372
 v233:=Tryz.zeroValue372
 g15:=by kernel_rfl
 g16:=by kernel_rfl
 g17:=by kernel_rfl
 g18:=by kernel_rfl
 g19:=by kernel_rfl
 t80:=Tryz.underlying373
 a80:=Tryz.isAgg373
 z80:=Tryz.sizeOf373
 v80:=Tryz.zeroValue373
 i0:=by kernel_rfl
 i2:=by kernel_rfl
 i3:=by kernel_rfl
 i4:=by kernel_rfl
 i5:=by kernel_rfl
 i9:=by kernel_rfl
 i20:=by kernel_rfl
 i21:=by kernel_rfl
 i37:=by kernel_rfl
 i46:=by kernel_rfl
 i51:=by kernel_rfl
 i53:=by kernel_rfl
 i75:=by kernel_rfl
 i76:=by kernel_rfl
 i80:=by kernel_rfl
 i85:=by kernel_rfl
 i127:=by kernel_rfl
 i143:=by kernel_rfl
 i145:=by kernel_rfl
 i167:=by kernel_rfl
 i168:=by kernel_rfl
 i171:=by kernel_rfl
 i173:=by kernel_rfl
 i175:=by kernel_rfl
 i210:=by kernel_rfl
 i212:=by kernel_rfl
 i232:=by kernel_rfl
 i233:=by kernel_rfl
 m15:=by kernel_rfl
 m16:=by kernel_rfl
 m17:=by kernel_rfl
 m18:=by kernel_rfl
 m19:=by kernel_rfl
 c0:=by kernel_rfl
 c2:=by kernel_rfl
 c3:=by kernel_rfl
 c4:=by kernel_rfl
 c5:=by kernel_rfl
 c9:=by kernel_rfl
 c20:=by kernel_rfl
 c21:=by kernel_rfl
 c37:=by kernel_rfl
 c46:=by kernel_rfl
 c51:=by kernel_rfl
 c53:=by kernel_rfl
 c75:=by kernel_rfl
 c76:=by kernel_rfl
 c80:=by kernel_rfl
 c85:=by kernel_rfl
 c127:=by kernel_rfl
 c143:=by kernel_rfl
 c145:=by kernel_rfl
 c167:=by kernel_rfl
 c168:=by kernel_rfl
 c171:=by kernel_rfl
 c173:=by kernel_rfl
 c175:=by kernel_rfl
 c210:=by kernel_rfl
 c212:=by kernel_rfl
 c213:=by kernel_rfl
 c232:=by kernel_rfl
 c233:=by kernel_rfl
theorem Id {P:Program} {ρ:Ren} (L:Lays.n146 P ρ) (hi9:(P.info? (ρ.t 9)).map (fun i=>(i.zero,i.size,i.bytes))=some (some (.string ByteArray.empty),1,16)) (s:ByteArray) (w:World) (hs:s.size<4294967281) :
  Calls P (ρ.f 146) #[.string s,.string ⟨#[32]⟩] w fun e w' =>
   e=.returned (.slice (some ⟨w.heap.size,0,none⟩) (Lib.countB s ⟨#[32]⟩+1) (Lib.countB s ⟨#[32]⟩+1))/\w'=w.alloc (.cells ((Lib.splitB ⟨#[32]⟩ 0 (Lib.countB s ⟨#[32]⟩) s).map Value.string).toArray (ρ.t 9)):=by
 have h1:1<=(⟨#[32]⟩:ByteArray).size:=by decide
 have hle:=Lib.countB_le ⟨#[32]⟩ h1 s.size s (NR _);have hlen:=Lib.splitB_all ⟨#[32]⟩ h1 0 _ s rfl
 have hC:Calls P (ρ.f 138) #[.string s,.string ⟨#[32]⟩] w fun e w'=>e=.returned (.int .i64 (Lib.countB s ⟨#[32]⟩))/\w'=w :=
  (Any.strings_Count_one { L with } s 32 w).mono fun e w' ⟨he,hw⟩=>⟨by
   rw [he];show _=Ending.returned (Value.int .i64 ((Lib.count s.data.toList [32]:Nat):Int));rw [Lib.count_one];rfl,hw⟩
 have hI:∀ (x:ByteArray) (c:Array Value),x.size<=s.size->Calls P (ρ.f 143) #[.string x,.string ⟨#[32]⟩] (w.alloc (.cells c (ρ.t 9))) fun e w'=>e=.returned (.int .i64 (Lib.indexB x ⟨#[32]⟩))/\w'=w.alloc (.cells c (ρ.t 9)):=fun x c _ =>
  (Any.strings_Index_one { L with } x 32 _).mono fun e w' ⟨he,hw⟩=>⟨by
   rw [he];show _=Ending.returned (Value.int .i64 (Lib.index x.data.toList [32]));rw [Lib.index_one],hw⟩
 have c:=Any.strings_genSplit_core { L with } hi9 s ⟨#[32]⟩ 0 (-1) (Lib.countB s ⟨#[32]⟩+1) w hs h1 (Of _) hI hC (by decide) (by decide) (by rw [if_pos (by decide)]; omega);rw [Nat.add_sub_cancel,hlen] at c;have e2:Lib.cellsOf (Lib.splitB ⟨#[32]⟩ 0 (Lib.countB s ⟨#[32]⟩) s) (Lib.countB s ⟨#[32]⟩+1)=((Lib.splitB ⟨#[32]⟩ 0 (Lib.countB s ⟨#[32]⟩) s).map Value.string).toArray:=by rw [<- hlen]; exact Lib.cellsOf_full _
 rw [e2] at c;have t3:=L.t3; have t9:=L.t9; have t31:=L.t31;have a3:=L.a3; have a9:=L.a9; have a31:=L.a31;have z3:=L.z3; have v3:=L.v3; have z9:=L.z9; have v9:=L.v9; have z31:=L.z31; have v31:=L.v31;have e221:∀ args w,(callFunc (ρ.f 221) args).run P w=.ok (.enter (ρ.f 221) args) w:=enters_of L.f221 (by kernel_rfl) rfl
 go_enter L.f146,Body.n146_ntmps ρ
 go_wp2_with (go_at_fn (ρ.f 221); refine c.mono ?_; rintro e w' ⟨rfl,hw⟩; rw [hw])
 go_ret
 exact ⟨rfl,rfl⟩
theorem IJ (s:ByteArray) (w:World) (hs:s.size<4294967281) :
  Calls Tryz.prog 185 #[.string s,.string ⟨#[32]⟩] w fun e w' =>
   e=.returned (.slice (some ⟨w.heap.size,0,none⟩) (Lib.countB s ⟨#[32]⟩+1) (Lib.countB s ⟨#[32]⟩+1))/\w'=w.alloc (.cells ((Lib.splitB ⟨#[32]⟩ 0 (Lib.countB s ⟨#[32]⟩) s).map Value.string).toArray 9) :=
 Id HJ (by kernel_rfl) s w hs
theorem tc:∀ (s:List UInt8),∀ p∈aj s,p.length<=s.length
 | [],p,h=>by simp [aj] at h; simp [h]
 | c::r,p,h=>by
  have ih:=tc r;unfold aj at h;split at h
  ·rcases NG.1 h with rfl | h
   ·simp
   ·have:=ih p h;simp only [NC];omega
  ·split at h
   ·simp only [NL] at h;subst h;simp
   ·rename_i q ps e;rcases NG.1 h with rfl | h
    ·have:=ih q (by rw [e]; simp);simp only [NC];omega
    ·have:=ih p (by rw [e]; simp [h]);simp only [NC];omega
theorem iV:∀ (s:List UInt8),(aj s).length=s.count 32+1
 | []=>rfl
 | c::r=>by
  have ih:=iV r;unfold aj;by_cases hc:c=32
  ·rw [if_pos hc,hc];simp [ih]
  ·rw [if_neg hc,List.count_cons_of_ne hc];cases e:aj r with
   | nil=>exact absurd e (wB r)
   | cons q ps =>
    rw [e] at ih;simpa using ih
theorem Fn {p:PH}:∀ {xs:List (List UInt8)},(∀ x∈xs,x.length<=aL)->aK (Ty.str.holds p) xs (xs.map fun x=>Value.string ⟨x.toArray⟩)
 | [],_=>rfl
 | x::xs,h=>⟨[.string ⟨x.toArray⟩],xs.map fun x=>Value.string ⟨x.toArray⟩,rfl,⟨rfl,h x (by simp)⟩,Fn (fun y hy=>h y (by simp [hy]))⟩
def DP:Spec:={ Ts:=[.str,.str],Rs:=[.dat (.arr .str)],pre:=fun (x:List UInt8×List UInt8)=>x.2=[32]/\x.1.length<4294967281,F:=fun (x:List UInt8×List UInt8)=>aj x.1 }
theorem DH (s:List UInt8) (hlen:s.length<4294967281) (w:World):Calls Tryz.prog 185 #[.string ⟨s.toArray⟩,.string ⟨#[32]⟩] w fun e w' =>
  e=.returned (.slice (some ⟨w.heap.size,0,none⟩) (aj s).length (aj s).length)/\w'=w.alloc (.cells ((aj s).map fun x=>Value.string ⟨x.toArray⟩).toArray 9):=by
 have hsz:(⟨s.toArray⟩:ByteArray).size=s.length:=by show s.toArray.size=_; simp
 refine (IJ ⟨s.toArray⟩ w (by rw [hsz]; exact hlen)).mono ?_;rintro e w' ⟨rfl,rfl⟩
 have hcnt:Lib.countB ⟨s.toArray⟩ ⟨#[32]⟩=s.count 32:=by
  show Lib.count s.toArray.toList [32]=_;rw [Lib.count_one]
 have hdat:(Lib.splitB ⟨#[32]⟩ 0 (s.count 32) ⟨s.toArray⟩).map (·.data.toList)=aj s:=by
  rw [Lib.splitB_data];exact wC _ s rfl
 have hval:(Lib.splitB ⟨#[32]⟩ 0 (s.count 32) ⟨s.toArray⟩).map Value.string=(aj s).map fun x=>Value.string ⟨x.toArray⟩:=by
  rw [<- hdat,List.map_map];rfl
 rw [hcnt,hval,iV s];exact ⟨rfl,rfl⟩
theorem Ek:DP.ok Tryz.prog 185:=by
 intro p w vs x hL hA hargs hpre
 have key:∀ s:List UInt8,s.length<4294967281->s.length<=aL->Calls Tryz.prog 185 #[.string ⟨s.toArray⟩,.string ⟨#[32]⟩] w fun e w'=>∃ (rs:List Value) (q:PH),e=.returned (ck rs)/\Keep (fun _=>False) w w'/\(∀ b cs,q b=some cs->w.heap.size<=b)/\Agrees q w' /\
   iX w' w.heap.size q q [.dat (.arr .str)] (aj s) rs []:=by
  intro s hlen hb1;refine (DH s hlen w).mono ?_;rintro e w' ⟨rfl,rfl⟩;have hn:=iV s;have hcl:s.count 32<=s.length:=List.count_le_length;have hnew:=O3 w (.cells ((aj s).map fun x=>Value.string ⟨x.toArray⟩).toArray 9);refine ⟨[.slice (some ⟨w.heap.size,0,none⟩) (aj s).length (aj s).length],fun b=>if b=w.heap.size then some (.cells ((aj s).map fun x=>Value.string ⟨x.toArray⟩).toArray) else none,rfl,⟨rfl,rfl,rfl,by simp,fun i hi _=>Below.heap_alloc w _ i hi⟩,fun b cs h=>?_,fun b cs h=>?_,?_⟩
  ·by_cases e:b=w.heap.size
   ·omega
   ·simp [e] at h
  ·by_cases e:b=w.heap.size
   ·subst e;simp only [if_true,Jg] at h;subst h;exact ⟨_,_,hnew⟩
   ·simp [e] at h
  ·refine ⟨_,rfl,?_,fun b hb=>by cases hb⟩;show (Ty.arr .str).holds _ (aj s) [_];refine ⟨some ⟨w.heap.size,0,none⟩,(aj s).length,(aj s).map fun x=>Value.string ⟨x.toArray⟩,rfl,NR _,?_,Fn (fun x hx=>?_),fun _=>⟨w.heap.size,0,rfl,fun j u hu=>?_⟩⟩
   ·show (aj s).length * 16<=aL;simp only [aL];omega
   ·have:=tc s x hx;omega
   ·simpa [PH.cell,Blk.get] using hu
 obtain ⟨v1,rest,rfl,h1,v2,rfl,h2⟩:=hargs;obtain ⟨h1,hb1⟩:[v1]=[Value.string ⟨(x.1:List UInt8).toArray⟩]/\(x.1:List UInt8).length<=aL:=h1;obtain ⟨h2,_⟩:[v2]=[Value.string ⟨(x.2:List UInt8).toArray⟩]/\_:=h2;obtain rfl:=(List.cons.inj h1).1;obtain rfl:=(List.cons.inj h2).1;rw [show (x.2:List UInt8)=[32] from hpre.1];exact key x.1 hpre.2 hb1
def KS:Spec:={ Ts:=[ty_I],Rs:=[.dat .str],pre:=fun _=>True,F:=fun (n:Int)=>Lib.itoa n }
theorem KL {w : World} (h : Laid w) : Lib.TabIs Tryz.prog w "internal/strconv.uint64pow10" .u64 Lib.pow10Tab := by
 obtain ⟨t,fz,e⟩:fits w 1 0 (.agg ((List.range 20).map fun i=>Value.int .u64 ((10 ^ i:Nat):Int)).toArray):=h _ (NF _ (NS));have hg : Tryz.prog.globalNamed "internal/strconv.uint64pow10" = some 1 := by kernel_rfl
 unfold Lib.TabIs World.var?;rw [hg];simp only [Pg,e];congr 1
theorem CD {w:World} (h:Laid w) (g:Nat) (hg:g=3\/g=4):∃ ev,w.cell? ⟨g,0,none⟩=some ev/\(ev=.nilIface\/∃ te pe,ev=.iface te pe):=by
 have hm:(g,0,Value.nilIface)∈ym:=NF _ (by rcases hg with rfl | rfl <;> simp);obtain ⟨te,pe,e⟩:fits w g 0 .nilIface:=h _ hm;exact ⟨_,e,.inr ⟨te,pe,rfl⟩⟩
theorem E1 (w:World) (k:Nat) (os:Array Go.Obj):Below w.heap.size w (Sort.grow (w.drewN k) os) :=
 ⟨rfl,rfl,rfl,by simp,fun i hi=>by simp [Sort.grow,Array.getElem?_append,hi]⟩
theorem FS (n:Int) (hn:am .i64 n) (w:World) (h:Laid w):Calls Tryz.prog 110 #[.int .i64 n] w fun e w'=>e=.returned (.string ⟨(Lib.itoa n).toArray⟩)/\Below w.heap.size w w':=by
 simp only [am] at hn;refine (Any.strconv_Itoa JI n (by omega) (by omega) w (KL h)).mono ?_;rintro e w' ⟨rfl,k,os,rfl⟩;exact ⟨rfl,E1 w k os⟩
theorem Ld:KS.ok Tryz.prog 110:=by
 intro p w vs (n:Int) hL hA hargs _;obtain ⟨val,rfl,hv⟩:=hargs;obtain ⟨e,hr⟩:[val]=[Value.int .i64 n]/\am .i64 n:=hv;obtain rfl:=(List.cons.inj e).1;refine (FS n hr w hL).mono ?_;rintro e w' ⟨rfl,hb⟩;refine ⟨[.string ⟨(Lib.itoa n).toArray⟩],fun _=>none,rfl,⟨hb.os,hb.tape,hb.output,hb.size,fun i hi _=>hb.block i hi⟩,fun _ _ h=>(by cases h),fun _ _ h=>(by cases h),?_⟩;have:=Lib.itoa_length_le n (by simp only [am] at hr; omega) (by simp only [am] at hr; omega);exact ⟨_,rfl,⟨rfl,by show (Lib.itoa n).length<=aL; simp only [aL]; omega⟩,fun b hb=>by cases hb⟩
abbrev KB (s:List UInt8) (w:World):Prop:=Calls Tryz.prog 187 #[.string ⟨s.toArray⟩] w fun e w'=>e=.returned (.tuple #[.int .i64 (fH s).1,.bool (fH s).2])/\Below w.heap.size w w'
theorem oh {w w':World} (h:w'=w\/∃ t,w'=Lib.bytesWorld w 5 t):Below w.heap.size w w':=by
 rcases h with rfl | ⟨t,rfl⟩
 ·exact Below.refl _ _
 ·exact Lib.bytesWorld_below _ _ _
theorem Laid.below {w w':World} (h:Laid w) (hb:Below w.heap.size w w'):Laid w':=h.of_heap fun _ _ hlt=>hb.block _ hlt
theorem Ms (s:List UInt8) (hs:s.length<=aL) (v:Int) (hv:Lib.atoiAll s=.ok v) (w:World) (h:Laid w):KB s w:=by
 have hA:=Any.strconv_Atoi_ok ui ⟨s.toArray⟩ (by show s.toArray.size<=_; simp only [aL] at hs; simp; omega) v hv w;have hb:=Lib.atoiAll_bounds hv;have hF:fH s=(v,decide (-1000000000000000<v/\v<1000000000000000/\Lib.itoa v=s)):=by unfold fH; rw [hv]
 unfold KB;rw [hF];have hin:am .i64 v:=by simp only [am]; omega
 by_cases h1:-1000000000000000<v
 ·by_cases h2:v<1000000000000000
  ·have e1:decide (-1000000000000000<v)=true:=OI h1;have e2:decide (v<1000000000000000)=true:=OI h2
   go_enter Tryz.func187,Tryz.ntmps187
   go_wp2_with (go_at_call 242; refine hA.mono ?_; rintro e W1 ⟨rfl,hW⟩)
   have hb1:=oh hW;have hI:=FS v hin W1 (h.below hb1);clear hW
   go_wp2_with (go_at_call 110; refine hI.mono ?_; rintro e W2 ⟨rfl,hb2⟩)
   go_ret2
   refine ⟨?_,hb1.trans (hb2.mono hb1.size)⟩
   have e3:(Lib.itoa v == s)=decide (-1000000000000000<v/\v<1000000000000000/\Lib.itoa v=s):=by
    apply PM.2;simp only [PN,N5];exact ⟨fun h=>⟨h1,h2,h⟩,fun h=>h.2.2⟩
   rw [e3];rfl
  ·have e1:decide (-1000000000000000<v)=true:=OI h1;have e2:decide (v<1000000000000000)=false:=OP h2
   go_enter Tryz.func187,Tryz.ntmps187
   go_wp2_with (go_at_call 242; refine hA.mono ?_; rintro e W1 ⟨rfl,hW⟩)
   have hb1:=oh hW;clear hW
   go_wp2
   go_ret2
   refine ⟨?_,hb1⟩;rw [OP (fun h=>absurd h.2.1 (by omega))];rfl
 ·have e1:decide (-1000000000000000<v)=false:=OP h1
  go_enter Tryz.func187,Tryz.ntmps187
  go_wp2_with (go_at_call 242; refine hA.mono ?_; rintro e W1 ⟨rfl,hW⟩)
  have hb1:=oh hW;clear hW
  go_wp2
  go_ret2
  refine ⟨?_,hb1⟩;rw [OP (fun h=>absurd h.1 (by omega))];rfl
theorem FN (s:List UInt8) (z:Int) (w:World) (hA:Calls Tryz.prog 242 #[.string ⟨s.toArray⟩] w fun e w'=>∃ N t,e=.returned (.tuple #[.int .i64 z,.iface t (.pointer (some ⟨N,0,none⟩))])/\Below w.heap.size w w') :
  Calls Tryz.prog 187 #[.string ⟨s.toArray⟩] w fun e w'=>e=.returned (.tuple #[.int .i64 z,.bool false])/\Below w.heap.size w w':=by
 go_enter Tryz.func187,Tryz.ntmps187
 go_wp2_with (go_at_call 242; refine hA.mono ?_; rintro e W1 ⟨N,t,rfl,hb⟩)
 go_wp2
 go_ret2
 exact ⟨rfl,hb⟩
theorem Mt (s:List UInt8) (hs:s.length<=aL) (w:World) (h:Laid w):KB s w:=by
 have hsz:(⟨s.toArray⟩:ByteArray).size=s.length:=by show s.toArray.size=_; simp
 have hlim:(⟨s.toArray⟩:ByteArray).size<=281474976710656:=by rw [hsz]; simp only [aL] at hs; omega
 cases hv:Lib.atoiAll s
 ·exact Ms s hs _ hv w h
 ·obtain ⟨ev,hc,he⟩:=CD h 3 (.inl rfl);have hF:fH s=(0,false):=by unfold fH; rw [hv]
  unfold KB;rw [hF];refine FN s 0 w ((Any.strconv_Atoi_syntax ui ⟨s.toArray⟩ hlim hv ev w hc he).mono ?_);rintro e w' ⟨N,rfl,_,_,hb⟩;exact ⟨N,_,rfl,hb⟩
 ·obtain ⟨ev,hc,he⟩:=CD h 4 (.inr rfl);have hF:fH s=(Lib.atoiSat s,false):=by unfold fH; rw [hv]
  unfold KB;rw [hF];refine FN s _ w ((Any.strconv_Atoi_range ui ⟨s.toArray⟩ hlim hv ev w hc he).mono ?_);rintro e w' ⟨N,rfl,_,_,hb⟩;exact ⟨N,_,rfl,hb⟩
theorem Lh (s:List UInt8):am .i64 (fH s).1:=by
 unfold fH;simp only [am];split
 ·rename_i v hv;have:=Lib.atoiAll_bounds hv;simp only;omega
 ·have:=Lib.atoiSat_bounds s;simp only;omega
 ·simp only;omega
def DS:Spec:={ Ts:=[.str],Rs:=[.dat ty_I,.dat .bool],pre:=fun _=>True,F:=fun (s:List UInt8)=>fH s }
theorem En:DS.ok Tryz.prog 187:=by
 intro p w vs (s:List UInt8) hL hA hargs _;obtain ⟨val,rfl,hv⟩:=hargs;obtain ⟨e,hr⟩:[val]=[Value.string ⟨s.toArray⟩]/\s.length<=aL:=hv;obtain rfl:=(List.cons.inj e).1;refine (Mt s hr w hL).mono ?_;rintro e w' ⟨rfl,hb⟩;exact ⟨[.int .i64 (fH s).1,.bool (fH s).2],fun _=>none,rfl,⟨hb.os,hb.tape,hb.output,hb.size,fun i hi _=>hb.block i hi⟩,fun _ _ h=>(by cases h),fun _ _ h=>(by cases h),_,_,rfl,⟨rfl,Lh s⟩,(fun b hb=>by cases hb),_,rfl,rfl,fun b hb=>by cases hb⟩
end
section
theorem Gy {α:Type} {a b:List α} {z:α} {i:Nat} (hl:a.length=b.length) (hi:i<a.length) (ht:a.take i=b.take i) (he:a.getD i z=b.getD i z):a.take (i+1)=b.take (i+1):=by
 rw [Ol hi,Ol (by omega),ht];have h1:a.getD i z=a[i]:=by simp [hi]
 have h2:b.getD i z=b[i]'(by omega):=by simp [show i<b.length by omega]
 rw [<- h1,<- h2,he]
end
section
def dc (L:Nat) (n:Int) (ks:List Int):Bool:=ks.any fun k=>decide (n<0)||decide (k<0)||decide (k > (L:Int))||decide (n > (L:Int) - k)
def em (L:Nat) (n:Int) (ks:List Int):Int:=if 256<L then 2 else if dc L n ks then 4 else 0
def MK (a:List Int) (i:Nat):Int:=a.getD (i / 8) 0 / 256 ^ (i % 8) % 256
def LI (a:List Int) (n:Nat):List Int:=(List.range n).map (MK a)
def bytesOf (a:List Int):List Int:=LI a (8 * a.length)
def zU:Nat->Option LoopGen
 | 4=>some { rd:=[.dat 2 (.arr ty_I),.dat 1 ty_I,.dat 0 (.arr bJ)],A:=fun (ks,n,a)=>{ cs:=[.dat 14 ty_I],inv:=fun (i:Int)=>0<=i/\i<=(ks:List Int).length/\(a:List Int).length<=256/\dc (a:List Int).length n ((ks:List Int).drop i.toNat)=dc (a:List Int).length n ks,mu:=fun (i:Int)=>((ks:List Int).length - i).toNat } }
 | _=>none
def yp:Spec:={ Ts:=[.arr bJ,ty_I,.arr ty_I],Rs:=[.dat ty_I],pre:=fun _=>True,F:=fun ((a,n,ks):List Int×Int×List Int)=>em a.length n ks }
def oM:Prop :=
  ∀ (x:List Int×Int×List Int),((x.1.length * 8<=aL/\∀ (x_1:Int),x_1∈x.1->am .u64 x_1)/\am .i64 x.2.1/\x.2.2.length * 8<=aL/\∀ (x_1:Int),x_1∈x.2.2->am .i64 x_1)->True->(decide (256<(x.1.length:Int))=true->2=em x.1.length x.2.1 x.2.2/\True)/\(decide (256<(x.1.length:Int))=false->((0:Int)<=0/\0<=(x.2.2.length:Int)/\x.1.length<=256/\dc x.1.length x.2.1 (List.drop (Int.toNat 0) x.2.2)=dc x.1.length x.2.1 x.2.2)/\∀ (x_1:Int),0<=x_1/\x_1<=(x.2.2.length:Int)/\x.1.length<=256/\dc x.1.length x.2.1 (List.drop x_1.toNat x.2.2)=dc x.1.length x.2.1 x.2.2->(decide (x_1<(x.2.2.length:Int))=true->0<=x_1/\x_1<(x.2.2.length:Int)/\((decide (x.2.1<0)||decide (x.2.2.getD x_1.toNat (0:Int)<0)||decide ((x.1.length:Int)<x.2.2.getD x_1.toNat 0))=false->am .i64 ((x.1.length:Int) - x.2.2.getD x_1.toNat 0))/\((decide (x.2.1<0)||decide (x.2.2.getD x_1.toNat (0:Int)<0)||decide ((x.1.length:Int)<x.2.2.getD x_1.toNat 0)||decide ((x.1.length:Int) - x.2.2.getD x_1.toNat 0<x.2.1))=true->4=em x.1.length x.2.1 x.2.2/\True)/\((decide (x.2.1<0)||decide (x.2.2.getD x_1.toNat (0:Int)<0)||decide ((x.1.length:Int)<x.2.2.getD x_1.toNat 0)||decide ((x.1.length:Int) - x.2.2.getD x_1.toNat 0<x.2.1))=false->am .i64 (x_1+1)/\(0<=x_1+1/\x_1+1<=(x.2.2.length:Int)/\x.1.length<=256/\dc x.1.length x.2.1 (List.drop (x_1+1).toNat x.2.2)=dc x.1.length x.2.1 x.2.2)/\((x.2.2.length:Int) - (x_1+1)).toNat<((x.2.2.length:Int) - x_1).toNat))/\(decide (x_1<(x.2.2.length:Int))=false->0=em x.1.length x.2.1 x.2.2/\True))
theorem vj:oM:=by
 unfold oM;intro ⟨a,n,ks⟩ ⟨⟨ha,_⟩,⟨_,_⟩,hk,hks⟩ _;unfold em aL at *;refine ⟨fun h=>?_,fun h=>⟨⟨by omega,by grind,by grind,by simp⟩,fun i ⟨h0,h1,h2,h3⟩=>⟨fun hlt=>?_,fun hge=>?_⟩⟩⟩
 ·grind
 ·have hlt:i<(ks.length:Int):=by simpa using hlt
  have e:=bz (0:Int) h0 hlt;have hm:=hks _ (aH (0:Int) h0 hlt);simp only [e] at h3;simp only [dc,Pb,am] at *
  grind
 ·rw [cq (by simpa using hge)] at h3;simp only [dc,List.any_nil] at *
  grind
theorem yU:yp.ok Tryz.prog 253:=aF (ann:=zU) ap Tryz.func253 (by kernel_rfl) vj
end
section
def vJ:Spec:={ Ts:=[.arr bJ],Rs:=[.own 45 bJ],pre:=fun _=>True,F:=fun (x:List Int)=>x }
def nd:Prop :=
  ∀ (x:List Int),(x.length * 8<=aL/\∀ (x_1:Int),x_1∈x->am .u64 x_1)->True->(x=([]:List Int)->([]:List Int)=x/\True)/\(True->(0+x.length) * 8<=aL/\([]:List Int)++x=x/\True)
theorem sU:nd:=by
 unfold nd;intro x ⟨hb,_⟩ _;simp [hb]
theorem bC:vJ.ok Tryz.prog 94:=aF (ann:=cr) ap Tryz.func94 (by kernel_rfl) sU
def kE (L at_ n:Int):Bool:=decide (0<=n)&&decide (0<=at_)&&decide (at_<=L)&&decide (n<=L - at_)
theorem AB (L:Nat) (n k:Int):em L n [k]=if 256<L then 2 else if kE L k n=true then 0 else 4:=by
 simp only [em,dc,kE,Pb,List.any_nil]
 grind
theorem m6 (L k n:Int):kE L k n=true ↔ 0<=n/\0<=k/\k<=L/\n<=L - k:=by
 simp [kE,PT]
def pc (n:Int):List Int×Int:=if n<0\/256<n then ([],4) else (List.replicate n.toNat 0,0)
def DK:Spec:={ Ts:=[ty_I],Rs:=[.own 45 bJ,.dat ty_I],pre:=fun _=>True,F:=pc }
def tE:Prop :=
  ∀ (x:Int),am .i64 x->True->((decide (x<0)||decide (256<x))=true->([]:List Int)=(pc x).1/\4=(pc x).2/\True)/\((decide (x<0)||decide (256<x))=false->0<=x/\x.toNat * 8<=aL/\List.replicate x.toNat (0:Int)=(pc x).1/\0=(pc x).2/\True)
theorem Ad:tE:=by
 unfold tE;intro n hw _;simp only [am,pc,aL] at *
 grind
theorem Eg:DK.ok Tryz.prog 54:=aF (ann:=cr) ap Tryz.func54 (by kernel_rfl) Ad
def lJ (a:List Int) (t:Nat) (ys:List Int) (k:Nat):List Int:=a.take t++(ys.take k++a.drop (t+k))
def eC (a:List Int) (at_ n v:Int) (k:Int):List Int:=lJ a at_.toNat (List.replicate n.toNat v) k.toNat
theorem Ea (a:List Int) (t:Nat) (ys:List Int):lJ a t ys 0=a:=by simp [lJ]
theorem yQ (a:List Int) (t:Nat) (ys:List Int) (k:Nat) (h:t+ys.length<=a.length) (hk:k<=ys.length):(lJ a t ys k).length=a.length:=by
 simp [lJ]; omega
theorem He (a:List Int) (t:Nat) (ys:List Int) (k:Nat) (v:Int) (h:t+ys.length<=a.length) (hk:k<ys.length) (hv:ys.getD k 0=v):(lJ a t ys k).set (t+k) v=lJ a t ys (k+1):=by
 have hv:v=ys[k]:=by rw [<- hv]; simp [hk]
 subst hv;unfold lJ;have l1:(a.take t).length=t:=by simp; omega
 have l2:(ys.take k).length=k:=by simp; omega
 rw [Pj _ _ (by omega),l1,Pj _ _ (by omega),l2,show t+k - t - k=0 by omega,OH (show t+k<a.length by omega),List.set_cons_zero,
  Ol hk,show t+(k+1)=t+k+1 by omega,List.append_assoc]
 rfl
theorem EI (a:List Int) (at_ n v:Int):eC a at_ n v 0=a:=Ea _ _ _
theorem EJ (a:List Int) (at_ n v k:Int) (h0:0<=at_) (h1:at_+n<=a.length) (k0:0<=k) (k1:k<n):(eC a at_ n v k).set (at_+k).toNat v=eC a at_ n v (k+1):=by
 unfold eC;rw [show (at_+k).toNat=at_.toNat+k.toNat by omega,show (k+1).toNat=k.toNat+1 by omega];exact He _ _ _ _ _ (by simp; omega) (by simp; omega) (by simp [show k.toNat<n.toNat by omega])
theorem fK (a:List Int) (at_ n v k:Int) (h0:0<=at_) (h1:at_+n<=a.length) (k0:0<=k) (k1:k<=n):(eC a at_ n v k).length=a.length :=
 yQ _ _ _ _ (by simp; omega) (by simp; omega)
def hZ (a:List Int) (at_ n v:Int):List Int×Int:=if em a.length n [at_]=0 then (eC a at_ n v n,0) else ([],em a.length n [at_])
def CU:Nat->Option LoopGen
 | 6=>some { rd:=[.dat 0 (.arr bJ),.dat 1 ty_I,.dat 2 ty_I,.dat 3 bJ],wr:=[11],A:=fun ((a,at_,n,v):List Int×Int×Int×Int)=>{ cs:=[.own 11 45 bJ,.dat 24 ty_I],inv:=fun ((out,k):List Int×Int)=>0<=k/\k<=n/\0<=at_/\at_+n<=a.length/\a.length<=256/\out=eC a at_ n v k,mu:=fun ((_,k):List Int×Int)=>(n - k).toNat } }
 | _=>none
def AH:Spec:={ Ts:=[.arr bJ,ty_I,ty_I,bJ],Rs:=[.own 45 bJ,.dat ty_I],pre:=fun _=>True,F:=fun ((a,at_,n,v):List Int×Int×Int×Int)=>hZ a at_ n v }
def rb:Prop :=
  ∀ (x:List Int×Int×Int×Int),(x.1.length * 8<=aL/\∀ (x_1:Int),x_1∈x.1->am .u64 x_1)/\am .i64 x.2.1/\am .i64 x.2.2.1/\am .u64 x.2.2.2->True->True/\(decide (em x.1.length x.2.2.1 [x.2.1]≠0)=true->([]:List Int)=(hZ x.1 x.2.1 x.2.2.1 x.2.2.2).1/\em x.1.length x.2.2.1 [x.2.1]=(hZ x.1 x.2.1 x.2.2.1 x.2.2.2).2/\True)/\(decide (em x.1.length x.2.2.1 [x.2.1]≠0)=false->True/\((0:Int)<=0/\0<=x.2.2.1/\0<=x.2.1/\x.2.1+x.2.2.1<=(x.1.length:Int)/\x.1.length<=256/\x.1=eC x.1 x.2.1 x.2.2.1 x.2.2.2 0)/\∀ (x_1:List Int×Int),0<=x_1.2/\x_1.2<=x.2.2.1/\0<=x.2.1/\x.2.1+x.2.2.1<=(x.1.length:Int)/\x.1.length<=256/\x_1.1=eC x.1 x.2.1 x.2.2.1 x.2.2.2 x_1.2->(decide (x_1.2<x.2.2.1)=true->am .i64 (x.2.1+x_1.2)/\0<=x.2.1+x_1.2/\x.2.1+x_1.2<(x_1.1.length:Int)/\(x.2.1+x_1.2).toNat<x_1.1.length/\am .i64 (x_1.2+1)/\(0<=x_1.2+1/\x_1.2+1<=x.2.2.1/\0<=x.2.1/\x.2.1+x.2.2.1<=(x.1.length:Int)/\x.1.length<=256/\x_1.1.set (x.2.1+x_1.2).toNat x.2.2.2=eC x.1 x.2.1 x.2.2.1 x.2.2.2 (x_1.2+1))/\(x.2.2.1 - (x_1.2+1)).toNat<(x.2.2.1 - x_1.2).toNat)/\(decide (x_1.2<x.2.2.1)=false->x_1.1=(hZ x.1 x.2.1 x.2.2.1 x.2.2.2).1/\0=(hZ x.1 x.2.1 x.2.2.1 x.2.2.2).2/\True))
theorem xO:rb:=by
 unfold rb;intro ⟨a,at_,n,v⟩ ⟨⟨ha,_⟩,h1,h2,_⟩ _;simp only [hZ,AB] at *;by_cases cl:256<a.length
 ·simp [cl]
 by_cases ok:kE a.length at_ n=true
 ·obtain ⟨o1,o2,o3,o4⟩:=(m6 _ _ _).1 ok;simp only [cl,ok,if_true,N4];refine ⟨trivial,fun h=>by simp at h,fun _=>⟨trivial,⟨by omega,o1,o2,by omega,by omega,(EI _ _ _ _).symm⟩,fun ⟨out,k⟩ ⟨k0,k1,_,q1,q2,q3⟩=>⟨fun hk=>?_,fun hk=>?_⟩⟩⟩
  ·have hk:k<n:=by simpa using hk
   simp only at *;have hl:out.length=a.length:=by rw [q3]; exact fK _ _ _ _ _ o2 q1 k0 k1
   refine ⟨by simp only [am]; omega,by omega,by omega,by omega,by simp only [am]; omega,⟨by omega,by omega,o2,q1,q2,?_⟩,by omega⟩;rw [q3];exact EJ _ _ _ _ _ o2 q1 k0 hk
  ·have hk:¬ k<n:=by simpa using hk
   simp only at *;have:k=n:=by omega
   subst this;simp [q3]
 ·simp [cl,ok]
theorem mg:AH.ok Tryz.prog 218:=aF (ann:=CU) (ae yU (ae bC ap)) Tryz.func218 (by kernel_rfl) xO
end
section
def ag {α:Type} (f:α->Bool):Int->List α->Int
 | _,[]=>-1
 | k,x::l=>if f x then k else ag f (k+1) l
theorem eB {α:Type} (f:α->Bool):∀ (l:List α) (k:Int),ag f k l=-1\/(k<=ag f k l/\ag f k l<k+l.length)
 | [],_=>.inl rfl
 | x::l,k=>by
  have ih:=eB f l (k+1);simp only [ag,NC];split
  ·right; omega
  ·rcases ih with h | h
   ·exact .inl h
   ·right; omega
theorem dV {α:Type} (f:α->Bool) (_:α) (l:List α) (k:Int) (_:0<=k):ag f k l<k+l.length:=by
 rcases eB f l k with h | h <;> omega
theorem dW {α:Type} (f:α->Bool) (d:α):∀ (l:List α) (k:Int),0<=ag f k l->0<=k->f (l.getD (ag f k l - k).toNat d)=true
 | [],_,h,_=>by simp [ag] at h
 | x::l,k,h,hk=>by
  have hr:=eB f l (k+1);have ih:=dW f d l (k+1);simp only [ag] at h |-;split at h
  ·rename_i hx;rw [if_pos hx];simpa using hx
  ·rename_i hx;rw [if_neg hx];have:=ih h (by omega);rw [show (ag f (k+1) l - k).toNat=(ag f (k+1) l - (k+1)).toNat+1 by omega];simpa using this
theorem dX {α:Type} (f:α->Bool):∀ (l:List α) (k:Int),0<=k->(decide (0<=ag f k l)=l.any f)
 | [],_,_=>rfl
 | x::l,k,h=>by
  have ih:=dX f l (k+1) (by omega);simp only [ag,Pb];by_cases hx:f x=true
  ·simp [hx,h]
  ·have hx:f x=false:=by simpa using hx
   simp only [hx,NJ,N4,Pt];exact ih
end
section
abbrev dI:=Int×Int×Int×Bool
def aa (h:dI):Int:=1+h.1+h.2.1
def af (h:dI):Int :=
 if h.1<0\/256<h.1\/h.2.1<0\/256<h.2.1\/h.2.2.1<0\/65535<h.2.2.1 then 4
 else if h.2.2.2=true/\(h.1≠0\/h.2.2.1≠0) then 3
 else if 256<aa h then 2 else 0
def aB (h:dI):Int:=h.1+65536 * h.2.1+4294967296 * h.2.2.1+(if h.2.2.2 then 281474976710656 else 0)
def aU (v:Int):dI:=(v % 65536,v / 65536 % 65536,v / 4294967296 % 65536,decide (v / 281474976710656=1))
def a8 (v:Int):Bool:=v / 281474976710656<=1&&af (aU v) == 0
def bK:dI:=(0,0,0,false)
theorem aW {h:dI} (h0:af h=0):0<=h.1/\0<=h.2.1/\0<=h.2.2.1/\h.2.2.1<=65535/\1+h.1+h.2.1<=256/\(h.2.2.2=true->h.1=0/\h.2.2.1=0):=by
 grind [af,aa]
theorem vX {h:dI} (h0:af h=0) :
  (↑((IntKind.u64.wrap h.1).toNat ||| (IntKind.u64.wrap (IntKind.u64.wrap h.2.1 * 2 ^ Int.toNat 16)).toNat):Int)=h.1+65536 * h.2.1 /\
  (↑((h.1+65536 * h.2.1).toNat ||| (IntKind.u64.wrap (IntKind.u64.wrap h.2.2.1 * 2 ^ Int.toNat 32)).toNat):Int)=h.1+65536 * h.2.1+4294967296 * h.2.2.1 /\
  (↑((h.1+65536 * h.2.1+4294967296 * h.2.2.1).toNat ||| Int.toNat 281474976710656):Int)=h.1+65536 * h.2.1+4294967296 * h.2.2.1+281474976710656:=by
 obtain ⟨h1,h2,h3,h4,h5,_⟩:=aW h0;rw [fP h1 (by omega),fP h2 (by omega),fP h3 (by omega)];have e1:(h.2.1 * 2 ^ Int.toNat 16)=h.2.1 * 65536:=rfl;have e2:(h.2.2.1 * 2 ^ Int.toNat 32)=h.2.2.1 * 4294967296:=rfl;rw [e1,e2,fP (by omega) (by omega),fP (by omega) (by omega)];have k1:=sD (i:=16) h1 h2 (by omega);have k2:=sD (i:=32) (a:=h.1+65536 * h.2.1) (by omega) h3 (by omega);have k3:=sD (i:=48) (a:=h.1+65536 * h.2.1+4294967296 * h.2.2.1) (b:=1) (by omega) (by omega) (by omega);refine ⟨?_,?_,?_⟩
 ·rw [show h.2.1 * 65536=h.2.1 * 2 ^ 16 from rfl,k1]; omega
 ·rw [show h.2.2.1 * 4294967296=h.2.2.1 * 2 ^ 32 from rfl,k2]; omega
 ·rw [show Int.toNat 281474976710656=((1:Int) * 2 ^ 48).toNat from rfl,k3]; rfl
theorem Cg {v:Int} (h0:0<=v) :
  (IntKind.i64.wrap ↑(v.toNat &&& Int.toNat 65535),IntKind.i64.wrap ↑((v / 2 ^ Int.toNat 16).toNat &&& Int.toNat 65535),IntKind.i64.wrap ↑((v / 2 ^ Int.toNat 32).toNat &&& Int.toNat 65535),
   decide (((v.toNat &&& Int.toNat 281474976710656:Nat):Int)≠0))=(v % 65536,v / 65536 % 65536,v / 4294967296 % 65536,decide (v / 281474976710656 % 2=1)):=by
 have e:Int.toNat 65535=2 ^ 16 - 1:=rfl;have e2:Int.toNat 281474976710656=2 ^ 48:=rfl;have e3:v / 2 ^ Int.toNat 16=v / 65536:=rfl;have e4:v / 2 ^ Int.toNat 32=v / 4294967296:=rfl;rw [e,e2,e3,e4,ml h0,ml (by omega),ml (by omega),JJ h0];rw [show (2:Int) ^ 16=65536 from rfl,show (2:Int) ^ 48=281474976710656 from rfl];rw [m4 (by omega) (by omega),m4 (by omega) (by omega),m4 (by omega) (by omega)];congr 3;apply PG.2;omega
theorem xw {v:Int} (h1:v / 281474976710656<=1) (h0:0<=v):(v % 65536,v / 65536 % 65536,v / 4294967296 % 65536,decide (v / 281474976710656 % 2=1))=aU v:=by
 simp only [aU];congr 3;apply PG.2;omega
def AY:Spec:={ Ts:=[gc],Rs:=[.dat ty_I],pre:=fun (h:dI)=>am .i64 (1+h.1)/\am .i64 (1+h.1+h.2.1),F:=aa }
def rq:Prop :=
  ∀ (x:Int×Int×Int×Bool),am .i64 x.1/\am .i64 x.2.1/\am .i64 x.2.2.1/\True->am .i64 (1+x.1)/\am .i64 (1+x.1+x.2.1)->am .i64 (1+x.1)/\am .i64 (1+x.1+x.2.1)/\1+x.1+x.2.1=aa x/\True
theorem x5:rq:=by
 unfold rq;intro x h1 h2;exact ⟨h2.1,h2.2,rfl,trivial⟩
theorem rN:AY.ok Tryz.prog 79:=aF (ann:=cr) ap Tryz.func79 (by kernel_rfl) x5
def yx:Spec:={ Ts:=[gc],Rs:=[.dat ty_I],pre:=fun _=>True,F:=af }
def oS:Prop :=
  ∀ (x:Int×Int×Int×Bool),am .i64 x.1/\am .i64 x.2.1/\am .i64 x.2.2.1/\True->True->((decide ((if x.2.2.1<if x.2.1<x.1 then x.2.1 else x.1 then x.2.2.1 else if x.2.1<x.1 then x.2.1 else x.1)<0)||decide (256<if x.1<x.2.1 then x.2.1 else x.1)||decide (65535<x.2.2.1))=true->4=af x/\True)/\((decide ((if x.2.2.1<if x.2.1<x.1 then x.2.1 else x.1 then x.2.2.1 else if x.2.1<x.1 then x.2.1 else x.1)<0)||decide (256<if x.1<x.2.1 then x.2.1 else x.1)||decide (65535<x.2.2.1))=false->((x.2.2.2&&(decide (0<x.1)||decide (0<x.2.2.1)))=true->3=af x/\True)/\((x.2.2.2&&(decide (0<x.1)||decide (0<x.2.2.1)))=false->(am .i64 (1+x.1)/\am .i64 (1+x.1+x.2.1))/\(decide (256<aa x)=true->2=af x/\True)/\(decide (256<aa x)=false->0=af x/\True)))
theorem vq:oS:=by
 unfold oS;intro x h1 _
 grind [am,af,aa]
theorem i7:yx.ok Tryz.prog 78:=aF (ann:=cr) (ae rN ap) Tryz.func78 (by kernel_rfl) vq
def AW:Spec:={ Ts:=[gc],Rs:=[.dat bJ,.dat ty_I],pre:=fun _=>True,F:=fun (h:dI)=>((if af h=0 then aB h else 0,af h):Int×Int) }
def ro:Prop :=
  ∀ (x:Int×Int×Int×Bool),am .i64 x.1/\am .i64 x.2.1/\am .i64 x.2.2.1/\True->True->True/\(decide (af x≠0)=true->((0:Int)=if af x=0 then aB x else (0:Int))/\af x=af x/\True)/\(decide (af x≠0)=false->(0:Int)<=16/\16<(↑IntKind.u64.bits:Int)/\(0:Int)<=32/\32<(↑IntKind.u64.bits:Int)/\(x.2.2.2=true->((↑((↑((↑((IntKind.u64.wrap x.1).toNat ||| (IntKind.u64.wrap (IntKind.u64.wrap x.2.1 * 2 ^ Int.toNat 16)).toNat):Int).toNat ||| (IntKind.u64.wrap (IntKind.u64.wrap x.2.2.1 * 2 ^ Int.toNat 32)).toNat):Int).toNat ||| Int.toNat 281474976710656):Int)=if af x=0 then aB x else (0:Int))/\0=af x/\True)/\(x.2.2.2=false->((↑((↑((IntKind.u64.wrap x.1).toNat ||| (IntKind.u64.wrap (IntKind.u64.wrap x.2.1 * 2 ^ Int.toNat 16)).toNat):Int).toNat ||| (IntKind.u64.wrap (IntKind.u64.wrap x.2.2.1 * 2 ^ Int.toNat 32)).toNat):Int)=if af x=0 then aB x else (0:Int))/\0=af x/\True))
theorem x3:ro:=by
 unfold ro;intro x hw _;refine ⟨trivial,fun h=>?_,fun h=>?_⟩
 ·have:af x≠0:=by simpa using h
  simp [this]
 ·have h0:af x=0:=by simpa using h
  obtain ⟨b1,b2,b3⟩:=vX h0;refine ⟨by decide,by decide,by decide,by decide,fun hf=>?_,fun hf=>?_⟩
  ·rw [b1,b2,b3,if_pos h0,h0];exact ⟨by simp [aB,hf],rfl,trivial⟩
  ·rw [b1,b2,if_pos h0,h0];exact ⟨by simp [aB,hf],rfl,trivial⟩
theorem iE:AW.ok Tryz.prog 56:=aF (ann:=cr) (ae i7 ap) Tryz.func56 (by kernel_rfl) x3
def yw:Spec:={ Ts:=[gc],Rs:=[.dat ty_I,.dat ty_I],pre:=fun _=>True,F:=fun (h:dI)=>((if af h=0 then aa h else 0,af h):Int×Int) }
def oR:Prop :=
  ∀ (x:Int×Int×Int×Bool),am .i64 x.1/\am .i64 x.2.1/\am .i64 x.2.2.1/\True->True->True/\(decide (af x≠0)=true->((0:Int)=if af x=0 then aa x else (0:Int))/\af x=af x/\True)/\(decide (af x≠0)=false->(am .i64 (1+x.1)/\am .i64 (1+x.1+x.2.1))/\(aa x=if af x=0 then aa x else (0:Int))/\0=af x/\True)
theorem vp:oR:=by
 unfold oR;intro x hw _;refine ⟨trivial,fun h=>?_,fun h=>?_⟩
 ·have:af x≠0:=by simpa using h
  simp [this]
 ·have h0:af x=0:=by simpa using h
  obtain ⟨b1,b2,b3,b4,b5,_⟩:=aW h0;simp only [am,h0,if_true,PF];omega
theorem gT:yw.ok Tryz.prog 20:=aF (ann:=cr) (ae i7 (ae rN ap)) Tryz.func20 (by kernel_rfl) vp
def AX:Spec:={ Ts:=[bJ],Rs:=[.dat gc,.dat ty_I],pre:=fun _=>True,F:=fun (v:Int)=>((if a8 v then aU v else bK,if a8 v then 0 else 3):dI×Int) }
def rp:Prop :=
  ∀ (x:Int),am .u64 x->True->(0:Int)<=16/\16<(↑IntKind.u64.bits:Int)/\(0:Int)<=32/\32<(↑IntKind.u64.bits:Int)/\(0:Int)<=49/\49<(↑IntKind.u64.bits:Int)/\(decide (x / 2 ^ Int.toNat (49:Int)≠0)=false->True)/\((decide (x / 2 ^ Int.toNat (49:Int)≠0)||decide (af (IntKind.i64.wrap (↑(x.toNat &&& Int.toNat 65535):Int),IntKind.i64.wrap (↑((x / 2 ^ Int.toNat 16).toNat &&& Int.toNat 65535):Int),IntKind.i64.wrap (↑((x / 2 ^ Int.toNat 32).toNat &&& Int.toNat 65535):Int),decide ((↑(x.toNat &&& Int.toNat 281474976710656):Int)≠0))≠0))=true->((0,0,0,false)=if a8 x=true then aU x else bK)/\((3:Int)=if a8 x=true then (0:Int) else (3:Int))/\True)/\((decide (x / 2 ^ Int.toNat (49:Int)≠0)||decide (af (IntKind.i64.wrap (↑(x.toNat &&& Int.toNat 65535):Int),IntKind.i64.wrap (↑((x / 2 ^ Int.toNat 16).toNat &&& Int.toNat 65535):Int),IntKind.i64.wrap (↑((x / 2 ^ Int.toNat 32).toNat &&& Int.toNat 65535):Int),decide ((↑(x.toNat &&& Int.toNat 281474976710656):Int)≠0))≠0))=false->((IntKind.i64.wrap (↑(x.toNat &&& Int.toNat 65535):Int),IntKind.i64.wrap (↑((x / 2 ^ Int.toNat 16).toNat &&& Int.toNat 65535):Int),IntKind.i64.wrap (↑((x / 2 ^ Int.toNat 32).toNat &&& Int.toNat 65535):Int),decide ((↑(x.toNat &&& Int.toNat 281474976710656):Int)≠0))=if a8 x=true then aU x else bK)/\((0:Int)=if a8 x=true then (0:Int) else (3:Int))/\True)
theorem x4:rp:=by
 unfold rp;intro x hw _;have hx:0<=x:=hw.1;rw [Cg hx,show x / 2 ^ Int.toNat 49=x / 562949953421312 from rfl];refine ⟨by decide,by decide,by decide,by decide,by decide,by decide,fun _=>trivial,fun h=>?_,fun h=>?_⟩
 ·have:a8 x=false:=by
   rcases Int.lt_or_le 1 (x / 281474976710656) with h1 | h1
   ·simp [a8,show ¬ x / 281474976710656<=1 by omega]
   ·rw [xw h1 hx] at h;have e:x / 562949953421312=0:=by omega
    simp only [e,ne_eq,not_true_eq_false,decide_false,Pt,N5] at h;simp [a8,h]
  simp [this,bK]
 ·have h1:x / 281474976710656<=1:=by
   have:x / 562949953421312=0:=by
    apply Ok;intro hne;simp [hne] at h
   omega
  rw [xw h1 hx] at h |-
  have:a8 x=true:=by
   simp only [OG,Ou,ne_eq,Classical.not_not] at h;simp [a8,h1,h.2]
  simp [this]
theorem B1:AX.ok Tryz.prog 222:=aF (ann:=cr) (ae i7 ap) Tryz.func222 (by kernel_rfl) x4
end
section
abbrev cE:Ty:=.pair ty_I gc
abbrev aw:=Int×dI
theorem dR {v:Int} (h:a8 v=true):1<=aa (aU v)/\aa (aU v)<=256:=by
 simp only [a8,NA,PN] at h;have:=aW h.2;unfold aa;omega
def spotsS (at_:Int) (l:List Int):Option (List aw) :=
 match l with
 | []=>some []
 | v::r=>if _h:a8 v=true/\aa (aU v)<=((v::r).length:Int) then (spotsS (at_+aa (aU v)) ((v::r).drop (aa (aU v)).toNat)).map ((at_,aU v)::·) else none
termination_by l.length
decreasing_by
 have:=dR _h.1;simp only [NY,NC];omega
def ac (a:List Int):List aw×Int:=if 256<a.length then ([],2) else match spotsS 0 a with
 | none=>([],3)
 | some l=>(l,0)
theorem cK {at_:Int} {v:Int} {r:List Int} (h:a8 v=true) (h2:aa (aU v)<=((v::r).length:Int)) :
  spotsS at_ (v::r)=(spotsS (at_+aa (aU v)) ((v::r).drop (aa (aU v)).toNat)).map ((at_,aU v)::·):=by
 rw [spotsS,dif_pos ⟨h,h2⟩]
theorem eH {at_:Int} {v:Int} {r:List Int} (h:¬ (a8 v=true/\aa (aU v)<=((v::r).length:Int))):spotsS at_ (v::r)=none:=by
 rw [spotsS,dif_neg h]
theorem p6 (at_:Int) (l:List Int) (r:List aw) (h:spotsS at_ l=some r):∀ s∈r,at_<=s.1/\s.1+aa s.2<=at_+l.length/\af s.2=0:=by
 induction at_,l using spotsS.induct generalizing r with
 | case1 at_ =>
  simp only [spotsS,Jg] at h;subst h;simp
 | case2 at_ v l hv ih =>
  rw [cK hv.1 hv.2] at h;obtain ⟨r',hr,rfl⟩:=NB.1 h;have hl:=dR hv.1
  have hf:af (aU v)=0:=by
   have:=hv.1;simp only [a8,NA,PN] at this;exact this.2
  intro s hs;rcases NG.1 hs with rfl | hs
  ·have:=hv.2;exact ⟨by simp,by simp only; omega,hf⟩
  ·obtain ⟨h1,h2,h3⟩:=ih r' hr s hs;rw [NY] at h2;have:=hv.2;exact ⟨by omega,by omega,h3⟩
 | case3 at_ v l hv =>
  rw [eH hv] at h;cases h
theorem vC (at_:Int) (l:List Int) (r:List aw) (h:spotsS at_ l=some r):r.length<=l.length:=by
 induction at_,l using spotsS.induct generalizing r with
 | case1 at_ =>
  simp only [spotsS,Jg] at h;subst h;simp
 | case2 at_ v l hv ih =>
  rw [cK hv.1 hv.2] at h;obtain ⟨r',hr,rfl⟩:=NB.1 h;have hl:=dR hv.1;have:=ih r' hr;rw [NY] at this;simp only [NC] at *;omega
 | case3 at_ v l hv =>
  rw [eH hv] at h;cases h
theorem eZ (a:List Int):(ac a).1.length<=256:=by
 unfold ac;split
 ·simp
 ·cases e:spotsS 0 a with
  | none=>simp
  | some l =>
   have:=vC 0 a l e;simp only;omega
def zT:Nat->Option LoopGen
 | 5=>some { rd:=[.dat 0 (.arr bJ)],A:=fun (a:List Int)=>{ cs:=[.own 4 202 cE,.dat 5 ty_I],inv:=fun ((out,at_):List aw×Int)=>a.length<=256/\0<=at_/\at_<=a.length/\out.length<=at_/\spotsS 0 a=(spotsS at_ (a.drop at_.toNat)).map (out++·),mu:=fun ((_,at_):List aw×Int)=>(a.length - at_).toNat } }
 | _=>none
def yn:Spec:={ Ts:=[.arr bJ],Rs:=[.own 202 cE,.dat ty_I],pre:=fun _=>True,F:=ac }
def oK:Prop :=
  ∀ (x:List Int),(x.length * 8<=aL/\∀ (x_1:Int),x_1∈x->am .u64 x_1)->True->(decide (256<(x.length:Int))=true->([]:List (Int×Int×Int×Int×Bool))=(ac x).1/\2=(ac x).2/\True)/\(decide (256<(x.length:Int))=false->(x.length<=256/\(0:Int)<=0/\0<=(x.length:Int)/\(↑(0:Nat):Int)<=0/\spotsS 0 x=Option.map (fun (x:List aw)=>([]:List (Int×Int×Int×Int×Bool))++x) (spotsS 0 (List.drop (Int.toNat 0) x)))/\∀ (x_1:List (Int×Int×Int×Int×Bool)×Int),x.length<=256/\0<=x_1.2/\x_1.2<=(x.length:Int)/\(x_1.1.length:Int)<=x_1.2/\spotsS 0 x=Option.map (fun (x:List aw)=>x_1.1++x) (spotsS x_1.2 (List.drop x_1.2.toNat x))->(decide (x_1.2<(x.length:Int))=true->0<=x_1.2/\x_1.2<(x.length:Int)/\True/\True/\(decide ((if a8 (x.getD x_1.2.toNat 0)=true then (0:Int) else (3:Int))≠0)=false->am .i64 ((x.length:Int) - x_1.2))/\((decide ((if a8 (x.getD x_1.2.toNat 0)=true then (0:Int) else (3:Int))≠0)||decide ((x.length:Int) - x_1.2<if af (if a8 (x.getD x_1.2.toNat 0)=true then aU (x.getD x_1.2.toNat 0) else bK)=0 then aa (if a8 (x.getD x_1.2.toNat 0)=true then aU (x.getD x_1.2.toNat 0) else bK) else (0:Int)))=true->([]:List (Int×Int×Int×Int×Bool))=(ac x).1/\3=(ac x).2/\True)/\((decide ((if a8 (x.getD x_1.2.toNat 0)=true then (0:Int) else (3:Int))≠0)||decide ((x.length:Int) - x_1.2<if af (if a8 (x.getD x_1.2.toNat 0)=true then aU (x.getD x_1.2.toNat 0) else bK)=0 then aa (if a8 (x.getD x_1.2.toNat 0)=true then aU (x.getD x_1.2.toNat 0) else bK) else (0:Int)))=false->(x_1.1.length+[(x_1.2,if a8 (x.getD x_1.2.toNat 0)=true then aU (x.getD x_1.2.toNat 0) else bK)].length) * (8+(8+(8+(8+8))))<=aL/\am .i64 (x_1.2+if af (if a8 (x.getD x_1.2.toNat 0)=true then aU (x.getD x_1.2.toNat 0) else bK)=0 then aa (if a8 (x.getD x_1.2.toNat 0)=true then aU (x.getD x_1.2.toNat 0) else bK) else (0:Int))/\(x.length<=256/\(0<=x_1.2+if af (if a8 (x.getD x_1.2.toNat 0)=true then aU (x.getD x_1.2.toNat 0) else bK)=0 then aa (if a8 (x.getD x_1.2.toNat 0)=true then aU (x.getD x_1.2.toNat 0) else bK) else (0:Int))/\(x_1.2+if af (if a8 (x.getD x_1.2.toNat 0)=true then aU (x.getD x_1.2.toNat 0) else bK)=0 then aa (if a8 (x.getD x_1.2.toNat 0)=true then aU (x.getD x_1.2.toNat 0) else bK) else (0:Int))<=(x.length:Int)/\((↑(x_1.1++[(x_1.2,if a8 (x.getD x_1.2.toNat 0)=true then aU (x.getD x_1.2.toNat 0) else bK)]).length:Int)<=x_1.2+if af (if a8 (x.getD x_1.2.toNat 0)=true then aU (x.getD x_1.2.toNat 0) else bK)=0 then aa (if a8 (x.getD x_1.2.toNat 0)=true then aU (x.getD x_1.2.toNat 0) else bK) else (0:Int))/\spotsS 0 x=Option.map (fun (x_2:List aw)=>x_1.1++[(x_1.2,if a8 (x.getD x_1.2.toNat 0)=true then aU (x.getD x_1.2.toNat 0) else bK)]++x_2) (spotsS (x_1.2+if af (if a8 (x.getD x_1.2.toNat 0)=true then aU (x.getD x_1.2.toNat 0) else bK)=0 then aa (if a8 (x.getD x_1.2.toNat 0)=true then aU (x.getD x_1.2.toNat 0) else bK) else (0:Int)) (List.drop (x_1.2+if af (if a8 (x.getD x_1.2.toNat 0)=true then aU (x.getD x_1.2.toNat 0) else bK)=0 then aa (if a8 (x.getD x_1.2.toNat 0)=true then aU (x.getD x_1.2.toNat 0) else bK) else (0:Int)).toNat x)))/\((x.length:Int) - (x_1.2+if af (if a8 (x.getD x_1.2.toNat 0)=true then aU (x.getD x_1.2.toNat 0) else bK)=0 then aa (if a8 (x.getD x_1.2.toNat 0)=true then aU (x.getD x_1.2.toNat 0) else bK) else (0:Int))).toNat<((x.length:Int) - x_1.2).toNat))/\(decide (x_1.2<(x.length:Int))=false->x_1.1=(ac x).1/\0=(ac x).2/\True))
theorem vg:oK:=by
 unfold oK;intro a ⟨hb,hw⟩ _;by_cases cl:256<a.length
 ·have e:ac a=([],2):=by unfold ac; rw [if_pos cl]
  simp [e];omega
 have eF:ac a=match spotsS 0 a with | none=>([],3) | some l=>(l,0):=by unfold ac; rw [if_neg cl]
 refine ⟨fun h=>by simp at h; omega,fun _=>⟨⟨by omega,by omega,by omega,by simp,by simp⟩,fun ⟨out,k⟩ ⟨_,h0,h1,h2,h3⟩=>⟨fun hlt=>?_,fun hge=>?_⟩⟩⟩
 ·have hlt:k<(a.length:Int):=by simpa using hlt
  simp only at *;rw [bz (0:Int) h0 hlt] at h3;have hdl:(((a.getD k.toNat 0::a.drop (k+1).toNat).length:Nat):Int)=a.length - k:=by rw [NC,NY]; omega
  have hdd:∀ n:Int,0<=n->(a.getD k.toNat 0::a.drop (k+1).toNat).drop n.toNat=a.drop (k+n).toNat:=fun n hn=>by
   rw [<- bz (0:Int) h0 hlt,OT];congr 1;omega
  generalize a.getD k.toNat 0=v at *;refine ⟨h0,hlt,trivial,trivial,fun _=>by simp only [am]; omega,fun hc=>?_,fun hc=>?_⟩
  ·have hn:¬ (a8 v=true/\aa (aU v)<=((v::a.drop (k+1).toNat).length:Int)):=by
    rintro ⟨g1,g2⟩
    have hf:af (aU v)=0:=by
     have:=g1;simp only [a8,NA,PN] at this;exact this.2
    rw [if_pos g1,if_pos g1,if_pos hf] at hc;simp at hc;omega
   rw [eH hn] at h3;rw [eF,h3];exact ⟨rfl,rfl,trivial⟩
  ·have g1:a8 v=true:=by
    cases hv:a8 v
    ·rw [hv] at hc; simp at hc
    ·rfl
   have hf:af (aU v)=0:=by
    have:=g1;simp only [a8,NA,PN] at this;exact this.2
   rw [if_pos g1,if_pos g1,if_pos hf] at hc;simp at hc;have hl:=dR g1;rw [cK g1 (by omega),hdd _ (by omega),Option.map_map] at h3;rw [if_pos g1,if_pos hf];unfold aL;simp only [NE,NC,N8,am];refine ⟨by omega,by omega,⟨by omega,by omega,by omega,by omega,?_⟩,by omega⟩;rw [h3];congr 1;funext x;simp
 ·have hge:¬ k<(a.length:Int):=by simpa using hge
  simp only at *;rw [cq hge] at h3;simp only [spotsS,Od,Om] at h3;rw [eF,h3];exact ⟨rfl,rfl,trivial⟩
theorem iZ:yn.ok Tryz.prog 161:=aF (ann:=zT) (ae B1 (ae gT ap)) Tryz.func161 (by kernel_rfl) vg
def aO (a:List Int) (s:aw):List Int:=(a.take (s.1+1+s.2.1).toNat).drop (s.1+1).toNat
def dd (a:List Int) (s:aw):Prop:=0<=s.1/\0<=s.2.1/\0<=s.2.2.1/\s.1+1+s.2.1+s.2.2.1<=a.length
def AI:Spec:={ Ts:=[.arr bJ,cE],Rs:=[.dat (.arr bJ)],al:=true,pre:=fun ((a,s):List Int×aw)=>a.length<=256/\dd a s,F:=fun ((a,s):List Int×aw)=>aO a s }
def rc:Prop :=
  ∀ (x:List Int×Int×Int×Int×Int×Bool),(x.1.length * 8<=aL/\∀ (x_1:Int),x_1∈x.1->am .u64 x_1)/\am .i64 x.2.1/\am .i64 x.2.2.1/\am .i64 x.2.2.2.1/\am .i64 x.2.2.2.2.1/\True->x.1.length<=256/\dd x.1 x.2->am .i64 (x.2.1+1)/\am .i64 (x.2.1+1)/\am .i64 (x.2.1+1+x.2.2.1)/\0<=x.2.1+1/\x.2.1+1<=x.2.1+1+x.2.2.1/\x.2.1+1+x.2.2.1<=(x.1.length:Int)/\List.drop (x.2.1+1).toNat (List.take (x.2.1+1+x.2.2.1).toNat x.1)=aO x.1 x.2/\True
theorem xP:rc:=by
 unfold rc;intro ⟨a,s⟩ _ ⟨h,h1,h2,h3,h4⟩;simp only [am,aO] at *;exact ⟨by omega,by omega,by omega,by omega,by omega,by omega,trivial,trivial⟩
theorem rI:AI.ok Tryz.prog 224:=aF (ann:=cr) ap Tryz.func224 (by kernel_rfl) xP
def d6 (m:List (Int×Int)) (i:Int):List aw->List (Int×Int)
 | []=>m
 | s::l=>d6 (if s.2.2.2.2=true then m else fW m (s.1+1) i) (i+1) l
def cA (l:List aw):List (Int×Int):=d6 [(0,-1)] 0 l
def wq:Nat->Option LoopGen
 | 3=>some { rd:=[.dat 8 (.arr cE)],A:=fun (l:List aw)=>{ cs:=[.map 6 .u64 ty_I,.dat 10 ty_I],inv:=fun ((m,i):List (Int×Int)×Int)=>0<=i/\i<=l.length/\(∀ s∈l,0<=s.1/\s.1<=256)/\d6 m i (l.drop i.toNat)=cA l,mu:=fun ((_,i):List (Int×Int)×Int)=>(l.length - i).toNat } }
 | _=>none
def vD:Spec:={ Ts:=[.arr cE],Rs:=[.map .u64 ty_I],pre:=fun (l:List aw)=>∀ s∈l,0<=s.1/\s.1<=256,F:=cA }
def m7:Prop :=
  ∀ (x:List (Int×Int×Int×Int×Bool)),(x.length * (8+(8+(8+(8+8))))<=aL/\∀ (x_1:Int×Int×Int×Int×Bool),x_1∈x->am .i64 x_1.1/\am .i64 x_1.2.1/\am .i64 x_1.2.2.1/\am .i64 x_1.2.2.2.1/\True)->(∀ (s:aw),s∈x->0<=s.1/\s.1<=256)->((0:Int)<=0/\0<=(x.length:Int)/\(∀ (s:aw),s∈x->0<=s.1/\s.1<=256)/\d6 (fW ([]:List (Int×Int)) 0 (-1)) 0 (List.drop (Int.toNat 0) x)=cA x)/\∀ (x_1:List (Int×Int)×Int),0<=x_1.2/\x_1.2<=(x.length:Int)/\(∀ (s:aw),s∈x->0<=s.1/\s.1<=256)/\d6 x_1.1 x_1.2 (List.drop x_1.2.toNat x)=cA x->(decide (x_1.2<(x.length:Int))=true->0<=x_1.2/\x_1.2<(x.length:Int)/\((!(x.getD x_1.2.toNat (0,0,0,0,false)).2.2.2.2)=true->am .u64 (IntKind.u64.wrap (x.getD x_1.2.toNat (0,0,0,0,false)).1+1)/\am .i64 (x_1.2+1)/\(0<=x_1.2+1/\x_1.2+1<=(x.length:Int)/\(∀ (s:aw),s∈x->0<=s.1/\s.1<=256)/\d6 (fW x_1.1 (IntKind.u64.wrap (x.getD x_1.2.toNat (0,0,0,0,false)).1+1) x_1.2) (x_1.2+1) (List.drop (x_1.2+1).toNat x)=cA x)/\((x.length:Int) - (x_1.2+1)).toNat<((x.length:Int) - x_1.2).toNat)/\((!(x.getD x_1.2.toNat (0,0,0,0,false)).2.2.2.2)=false->am .i64 (x_1.2+1)/\(0<=x_1.2+1/\x_1.2+1<=(x.length:Int)/\(∀ (s:aw),s∈x->0<=s.1/\s.1<=256)/\d6 x_1.1 (x_1.2+1) (List.drop (x_1.2+1).toNat x)=cA x)/\((x.length:Int) - (x_1.2+1)).toNat<((x.length:Int) - x_1.2).toNat))/\(decide (x_1.2<(x.length:Int))=false->x_1.1=cA x/\True)
theorem sN:m7:=by
 unfold m7;intro l ⟨hb,_⟩ hp;refine ⟨⟨by omega,by omega,hp,rfl⟩,fun ⟨m,i⟩ ⟨h0,h1,_,h2⟩=>⟨fun hlt=>?_,fun hge=>?_⟩⟩
 ·have hlt:i<(l.length:Int):=by simpa using hlt
  simp only at *;have hs:=hp _ (aH ((0,0,0,0,false):aw) h0 hlt);rw [bz ((0,0,0,0,false):aw) h0 hlt] at h2;simp only [d6] at h2;generalize l.getD i.toNat (0,0,0,0,false)=s at *;unfold aL at hb;refine ⟨h0,hlt,fun hc=>?_,fun hc=>?_⟩
  ·have hc:¬ s.2.2.2.2=true:=by simpa using hc
   rw [if_neg hc] at h2;rw [fP (by omega) (by omega)];simp only [am];exact ⟨by omega,by omega,⟨by omega,by omega,hp,h2⟩,by omega⟩
  ·have hc:s.2.2.2.2=true:=by simpa using hc
   rw [if_pos hc] at h2;simp only [am];exact ⟨by omega,⟨by omega,by omega,hp,h2⟩,by omega⟩
 ·rw [cq (by simpa using hge)] at h2;exact ⟨h2,trivial⟩
theorem vO:vD.ok Tryz.prog 223:=aF (ann:=wq) ap Tryz.func223 (by kernel_rfl) sN
def gk (m:List (Int×Int)) (a:List Int) (l:List aw):Bool:=l.all fun s=>(aO a s).all fun v=>(bq m v).isSome
def ak (a:List Int):List aw×List (Int×Int)×Int :=
 if (ac a).2≠0 then ([],[],(ac a).2) else if gk (cA (ac a).1) a (ac a).1=true then ((ac a).1,cA (ac a).1,0) else ([],[],5)
theorem gw {a:List Int} (h:(ac a).2=0):a.length<=256/\∀ s∈(ac a).1,dd a s/\af s.2=0:=by
 unfold ac at h |-;split at h
 ·simp at h
 rename_i cl;rw [if_neg cl];refine ⟨by omega,?_⟩;cases e:spotsS 0 a with
 | none=>rw [e] at h; simp at h
 | some l =>
  intro s hs;obtain ⟨h1,h2,h3⟩:=p6 0 a l e s hs;have:=aW h3;unfold aa at h2;exact ⟨⟨h1,this.1,this.2.1,by omega⟩,h3⟩
def wt:Nat->Option LoopGen
 | 6=>some { rd:=[.own 24 202 cE,.dat 0 (.arr bJ),.map 23 .u64 ty_I],A:=fun ((l,a,m):List aw×List Int×List (Int×Int))=>{ cs:=[.dat 26 ty_I],inv:=fun (i:Int)=>0<=i/\i<=l.length/\a.length<=256/\(∀ s∈l,dd a s)/\gk m a (l.drop i.toNat)=gk m a l,mu:=fun (i:Int)=>(l.length - i).toNat } }
 | 9=>some { rd:=[.dat 32 (.arr bJ),.map 23 .u64 ty_I],A:=fun ((rs,m):List Int×List (Int×Int))=>{ cs:=[.dat 34 ty_I],inv:=fun (j:Int)=>0<=j/\j<=rs.length/\((rs.drop j.toNat).all fun v=>(bq m v).isSome)=(rs.all fun v=>(bq m v).isSome),mu:=fun (j:Int)=>(rs.length - j).toNat } }
 | _=>none
def vF:Spec:={ Ts:=[.arr bJ],Rs:=[.dat (.arr cE),.dat (.map .u64 ty_I),.dat ty_I],al:=true,pre:=fun _=>True,F:=ak }
def m9:Prop :=
  ∀ (x:List Int),(fun (v1:type_of% (cA (ac x).1))=>(x.length * 8<=aL/\∀ (x_1:Int),x_1∈x->am .u64 x_1)->True->True/\(decide ((ac x).2≠0)=true->([]:List (Int×Int×Int×Int×Bool))=(ak x).1/\([]:List (Int×Int))=(ak x).2.1/\(ac x).2=(ak x).2.2/\True)/\(decide ((ac x).2≠0)=false->(∀ (s:aw),s∈(ac x).1->0<=s.1/\s.1<=256)/\((0:Int)<=0/\0<=(↑(ac x).1.length:Int)/\x.length<=256/\(∀ (s:aw),s∈(ac x).1->dd x s)/\gk v1 x (List.drop (Int.toNat 0) (ac x).1)=gk v1 x (ac x).1)/\∀ (x_1:Int),(fun (v0:type_of% (aO x ((ac x).1.getD x_1.toNat (0,0,0,0,false))))=>0<=x_1/\x_1<=(↑(ac x).1.length:Int)/\x.length<=256/\(∀ (s:aw),s∈(ac x).1->dd x s)/\gk v1 x (List.drop x_1.toNat (ac x).1)=gk v1 x (ac x).1->(decide (x_1<(↑(ac x).1.length:Int))=true->0<=x_1/\x_1<(↑(ac x).1.length:Int)/\x_1.toNat<(ac x).1.length/\(x.length<=256/\dd x ((ac x).1.getD x_1.toNat (0,0,0,0,false)))/\((0:Int)<=0/\0<=(v0.length:Int)/\((List.drop (Int.toNat 0) v0).all fun (v:Int)=>(bq v1 v).isSome)=v0.all fun (v:Int)=>(bq v1 v).isSome)/\∀ (x_2:Int),(0<=x_2/\x_2<=(v0.length:Int)/\((List.drop x_2.toNat v0).all fun (v:Int)=>(bq v1 v).isSome)=v0.all fun (v:Int)=>(bq v1 v).isSome)->(decide (x_2<(v0.length:Int))=true->0<=x_2/\x_2<(v0.length:Int)/\((!(bq v1 (v0.getD x_2.toNat 0)).isSome)=true->([]:List (Int×Int×Int×Int×Bool))=(ak x).1/\([]:List (Int×Int))=(ak x).2.1/\5=(ak x).2.2/\True)/\((!(bq v1 (v0.getD x_2.toNat 0)).isSome)=false->am .i64 (x_2+1)/\(0<=x_2+1/\x_2+1<=(v0.length:Int)/\((List.drop (x_2+1).toNat v0).all fun (v:Int)=>(bq v1 v).isSome)=v0.all fun (v:Int)=>(bq v1 v).isSome)/\((v0.length:Int) - (x_2+1)).toNat<((v0.length:Int) - x_2).toNat))/\(decide (x_2<(v0.length:Int))=false->am .i64 (x_1+1)/\(0<=x_1+1/\x_1+1<=(↑(ac x).1.length:Int)/\x.length<=256/\(∀ (s:aw),s∈(ac x).1->dd x s)/\gk v1 x (List.drop (x_1+1).toNat (ac x).1)=gk v1 x (ac x).1)/\((↑(ac x).1.length:Int) - (x_1+1)).toNat<((↑(ac x).1.length:Int) - x_1).toNat))/\(decide (x_1<(↑(ac x).1.length:Int))=false->(ac x).1=(ak x).1/\cA (ac x).1=(ak x).2.1/\0=(ak x).2.2/\True)) (aO x ((ac x).1.getD x_1.toNat (0,0,0,0,false))))) (cA (ac x).1)
theorem sP:m9:=by
 unfold m9;intro a ⟨hb,hw⟩ _;have hlen:=eZ a;have hin:=gw (a:=a);have hF:ak a=if (ac a).2≠0 then ([],[],(ac a).2) else if gk (cA (ac a).1) a (ac a).1=true then ((ac a).1,cA (ac a).1,0) else ([],[],5):=rfl
 generalize cA (ac a).1=m at *;generalize (ac a).1=l at *;refine ⟨trivial,fun hc=>?_,fun hc=>?_⟩
 ·have hc:(ac a).2≠0:=by simpa using hc
  rw [hF,if_pos hc];exact ⟨rfl,rfl,rfl,trivial⟩
 have hc:(ac a).2=0:=by simpa using hc
 rw [if_neg (by omega)] at hF;obtain ⟨hal,hsp⟩:=hin hc;refine ⟨fun s hs=>?_,⟨by omega,by omega,hal,fun s hs=>(hsp s hs).1,rfl⟩,fun i ⟨h0,h1,_,_,h2⟩=>⟨fun hlt=>?_,fun hge=>?_⟩⟩
 ·have:=(hsp s hs).1;unfold dd at this;omega
 ·have hlt:i<(l.length:Int):=by simpa using hlt
  have hs:=hsp _ (aH ((0,0,0,0,false):aw) h0 hlt);rw [bz ((0,0,0,0,false):aw) h0 hlt] at h2;simp only [gk,OB] at h2;generalize l.getD i.toNat (0,0,0,0,false)=s at *;have hrl:(aO a s).length<=256:=by simp only [aO,NY,NN]; omega
  generalize aO a s=rs at *;refine ⟨h0,hlt,by omega,⟨hal,hs.1⟩,⟨by omega,by omega,rfl⟩,fun j ⟨g0,g1,g2⟩=>⟨fun hlt=>?_,fun hge=>?_⟩⟩
  ·have hlt:j<(rs.length:Int):=by simpa using hlt
   rw [bz (0:Int) g0 hlt] at g2;simp only [OB] at g2;generalize rs.getD j.toNat 0=v at *;refine ⟨g0,hlt,fun hv=>?_,fun hv=>?_⟩
   ·have hv:(bq m v).isSome=false:=by simpa using hv
    rw [hv,Py] at g2;rw [<- g2,Py] at h2;rw [hF,if_neg (by unfold gk; rw [<- h2]; simp)];exact ⟨rfl,rfl,rfl,trivial⟩
   ·have hv:(bq m v).isSome=true:=by simpa using hv
    rw [hv,OU] at g2;simp only [am];exact ⟨by omega,⟨by omega,by omega,g2⟩,by omega⟩
  ·rw [cq (by simpa using hge),P8] at g2;rw [<- g2,OU] at h2;simp only [am];exact ⟨by omega,⟨by omega,by omega,hal,fun s hs=>(hsp s hs).1,h2⟩,by omega⟩
 ·rw [cq (by simpa using hge)] at h2;have h2:gk m a l=true:=by rw [<- h2]; rfl
  rw [hF,if_pos h2];exact ⟨rfl,rfl,rfl,trivial⟩
theorem nh:vF.ok Tryz.prog 162:=aF (ann:=wt) (ae iZ (ae vO (ae rI ap))) Tryz.func162 (by kernel_rfl) sP
def yo:Spec:={ Ts:=[.arr bJ],Rs:=[.dat ty_I],pre:=fun _=>True,F:=fun (a:List Int)=>(ak a).2.2 }
def oL:Prop :=
  ∀ (x:List Int),(x.length * 8<=aL/\∀ (x_1:Int),x_1∈x->am .u64 x_1)->True->True/\(ak x).2.2=(ak x).2.2/\True
theorem vh:oL:=by
 unfold oL;intro a _ _;simp
theorem i6:yo.ok Tryz.prog 148:=aF (ann:=cr) (ae nh ap) Tryz.func148 (by kernel_rfl) vh
def iy (a:List Int) (s:aw):List Int:=(a.take (s.1+1+s.2.1+s.2.2.1).toNat).drop (s.1+1+s.2.1).toNat
def gU (a:List Int) (s:aw) (m:List (Int×Int)):Obj:=(s.2.2.2.1,(aO a s).map (fun v=>(bq m v).getD 0),iy a s,s.2.2.2.2)
def ws:Nat->Option LoopGen
 | 3=>some { rd:=[.dat 20 (.arr bJ),.dat 2 (.map .u64 ty_I),.box 4 cE],A:=fun ((rs,m,s):List Int×List (Int×Int)×aw)=>{ cs:=[.boxS 7 [.dat ty_I,.own 3 ty_I,.dat (.arr bJ),.dat .bool],.dat 22 ty_I],inv:=fun ((o,j):Obj×Int)=>0<=j/\j<=rs.length/\rs.length<=256/\o=(s.2.2.2.1,(rs.take j.toNat).map (fun v=>(bq m v).getD 0),[],s.2.2.2.2),mu:=fun ((_,j):Obj×Int)=>(rs.length - j).toNat } }
 | _=>none
def vE:Spec:={ Ts:=[.arr bJ,cE,.map .u64 ty_I],Rs:=[.dat DA],al:=true,pre:=fun ((a,s,_):List Int×aw×List (Int×Int))=>a.length<=256/\dd a s,F:=fun ((a,s,m):List Int×aw×List (Int×Int))=>gU a s m }
def m8:Prop :=
  ∀ (x:List Int×(Int×Int×Int×Int×Bool)×List (Int×Int)),(fun (v0:type_of% (aO x.1 x.2.1))=>((x.1.length * 8<=aL/\∀ (x_1:Int),x_1∈x.1->am .u64 x_1)/\(am .i64 x.2.1.1/\am .i64 x.2.1.2.1/\am .i64 x.2.1.2.2.1/\am .i64 x.2.1.2.2.2.1/\True)/\∀ (x_1:Int×Int),x_1∈x.2.2->am .u64 x_1.1/\am .i64 x_1.2)->x.1.length<=256/\dd x.1 x.2.1->(x.1.length<=256/\dd x.1 x.2.1)/\((0:Int)<=0/\0<=(v0.length:Int)/\v0.length<=256/\(x.2.1.2.2.2.1,([]:List Int),([]:List Int),x.2.1.2.2.2.2)=(x.2.1.2.2.2.1,List.map (fun (v:Int)=>(bq x.2.2 v).getD 0) (List.take (Int.toNat 0) v0),([]:List Int),x.2.1.2.2.2.2))/\∀ (x_1:(Int×List Int×List Int×Bool)×Int),0<=x_1.2/\x_1.2<=(v0.length:Int)/\v0.length<=256/\x_1.1=(x.2.1.2.2.2.1,List.map (fun (v:Int)=>(bq x.2.2 v).getD 0) (List.take x_1.2.toNat v0),([]:List Int),x.2.1.2.2.2.2)->(decide (x_1.2<(v0.length:Int))=true->0<=x_1.2/\x_1.2<(v0.length:Int)/\(x_1.1.2.1.length+[(bq x.2.2 (v0.getD x_1.2.toNat 0)).getD 0].length) * 8<=aL/\am .i64 (x_1.2+1)/\(0<=x_1.2+1/\x_1.2+1<=(v0.length:Int)/\v0.length<=256/\(x_1.1.1,x_1.1.2.1++[(bq x.2.2 (v0.getD x_1.2.toNat 0)).getD 0],x_1.1.2.2)=(x.2.1.2.2.2.1,List.map (fun (v:Int)=>(bq x.2.2 v).getD 0) (List.take (x_1.2+1).toNat v0),([]:List Int),x.2.1.2.2.2.2))/\((v0.length:Int) - (x_1.2+1)).toNat<((v0.length:Int) - x_1.2).toNat)/\(decide (x_1.2<(v0.length:Int))=false->am .i64 (x.2.1.1+1)/\am .i64 (x.2.1.1+1+x.2.1.2.1)/\am .i64 (x.2.1.1+1+x.2.1.2.1+x.2.1.2.2.1)/\0<=x.2.1.1+1+x.2.1.2.1/\x.2.1.1+1+x.2.1.2.1<=x.2.1.1+1+x.2.1.2.1+x.2.1.2.2.1/\x.2.1.1+1+x.2.1.2.1+x.2.1.2.2.1<=(x.1.length:Int)/\True/\(x_1.1.1,x_1.1.2.1,List.drop (x.2.1.1+1+x.2.1.2.1).toNat (List.take (x.2.1.1+1+x.2.1.2.1+x.2.1.2.2.1).toNat x.1),x_1.1.2.2.2)=gU x.1 x.2.1 x.2.2/\True)) (aO x.1 x.2.1)
theorem sO:m8:=by
 unfold m8;intro ⟨a,s,m⟩ _ ⟨hal,hs⟩;have hs':=hs;unfold dd at hs';simp only at *;have hrl:(aO a s).length<=256:=by simp only [aO,NY,NN]; omega
 have hF:gU a s m=(s.2.2.2.1,(aO a s).map (fun v=>(bq m v).getD 0),iy a s,s.2.2.2.2):=rfl;have hB:iy a s=(a.take (s.1+1+s.2.1+s.2.2.1).toNat).drop (s.1+1+s.2.1).toNat:=rfl;rw [hF,hB];generalize aO a s=rs at *;refine ⟨⟨hal,hs⟩,⟨by omega,by omega,hrl,by simp⟩,fun ⟨o,j⟩ ⟨g0,g1,_,g2⟩=>⟨fun hlt=>?_,fun hge=>?_⟩⟩
 ·have hlt:j<(rs.length:Int):=by simpa using hlt
  simp only at g0 g1 g2;have e:=bx (0:Int) g0 hlt;have hl:o.2.1.length=j.toNat:=by rw [g2]; simp; omega
  unfold aL;simp only [am,NC,N8];refine ⟨g0,hlt,by omega,by omega,⟨by omega,by omega,hrl,?_⟩,by omega⟩;rw [e,Ot,g2];rfl
 ·have hge:¬ j<(rs.length:Int):=by simpa using hge
  simp only at g0 g1 g2;rw [cn hge] at g2;simp only [am];refine ⟨by omega,by omega,by omega,by omega,by omega,by omega,trivial,?_,trivial⟩;rw [g2]
theorem vP:vE.ok Tryz.prog 165:=aF (ann:=ws) (ae rI (ae bC ap)) Tryz.func165 (by kernel_rfl) sO
theorem bg {a:List Int} (h:(ak a).2.2=0):a.length<=256/\(ak a).1.length<=256/\(ak a).1=(ac a).1/\(ac a).2=0/\(ak a).2.1=cA (ac a).1/\gk (cA (ac a).1) a (ac a).1=true/\∀ s∈(ak a).1,dd a s/\af s.2=0:=by
 unfold ak at h |-;by_cases h1:(ac a).2≠0
 ·rw [if_pos h1] at h;exact absurd h h1
 ·rw [if_neg h1] at h |-;have h1:(ac a).2=0:=by omega
  by_cases h2:gk (cA (ac a).1) a (ac a).1=true
  ·rw [if_pos h2];exact ⟨(gw h1).1,eZ a,rfl,h1,rfl,h2,(gw h1).2⟩
  ·rw [if_neg h2] at h;simp at h
def DU:Spec:={ Ts:=[.arr cE,.fn cE .bool],Rs:=[.dat ty_I],pre:=fun ((l,g):List aw×(aw->Prop)×(aw->Bool))=>∀ s∈l,g.1 s,F:=fun ((l,g):List aw×(aw->Prop)×(aw->Bool))=>ag g.2 0 l }
def E6:Nat->Option LoopGen
 | 2=>some { rd:=[.dat 0 (.arr cE),.dat 1 (.fn cE .bool)],A:=fun ((l,g):List aw×(aw->Prop)×(aw->Bool))=>{ cs:=[.dat 8 ty_I],inv:=fun (i:Int)=>0<=i/\i<=l.length/\ag g.2 i (l.drop i.toNat)=ag g.2 0 l,mu:=fun (i:Int)=>(l.length - i).toNat } }
 | _=>none
def tM:Prop :=
  ∀ (x:List (Int×Int×Int×Int×Bool)×(Int×Int×Int×Int×Bool->Prop)×(Int×Int×Int×Int×Bool->Bool)),(x.1.length * (8+(8+(8+(8+8))))<=aL/\∀ (x_1:Int×Int×Int×Int×Bool),x_1∈x.1->am .i64 x_1.1/\am .i64 x_1.2.1/\am .i64 x_1.2.2.1/\am .i64 x_1.2.2.2.1/\True)/\True->(∀ (s:aw),s∈x.1->x.2.1 s)->((0:Int)<=0/\0<=(x.1.length:Int)/\ag x.2.2 0 (List.drop (Int.toNat 0) x.1)=ag x.2.2 0 x.1)/\∀ (x_1:Int),0<=x_1/\x_1<=(x.1.length:Int)/\ag x.2.2 x_1 (List.drop x_1.toNat x.1)=ag x.2.2 0 x.1->(decide (x_1<(x.1.length:Int))=true->0<=x_1/\x_1<(x.1.length:Int)/\x.2.1 (x.1.getD x_1.toNat (0,0,0,0,false))/\(x.2.2 (x.1.getD x_1.toNat (0,0,0,0,false))=true->x_1=ag x.2.2 0 x.1/\True)/\(x.2.2 (x.1.getD x_1.toNat (0,0,0,0,false))=false->am .i64 (x_1+1)/\(0<=x_1+1/\x_1+1<=(x.1.length:Int)/\ag x.2.2 (x_1+1) (List.drop (x_1+1).toNat x.1)=ag x.2.2 0 x.1)/\((x.1.length:Int) - (x_1+1)).toNat<((x.1.length:Int) - x_1).toNat))/\(decide (x_1<(x.1.length:Int))=false->(-1)=ag x.2.2 0 x.1/\True)
theorem Al:tM:=by
 unfold tM;intro ⟨l,g⟩ ⟨⟨hl,_⟩,_⟩ hp;unfold aL at *;refine ⟨⟨by omega,by omega,by simp⟩,fun i ⟨h0,h1,h2⟩=>⟨fun hlt=>?_,fun hge=>?_⟩⟩
 ·have hlt:i<(l.length:Int):=by simpa using hlt
  have e:=bz ((0,0,0,0,false):aw) h0 hlt;have hm:=hp _ (aH ((0,0,0,0,false):aw) h0 hlt);simp only at *;rw [e] at h2;simp only [ag] at h2;refine ⟨h0,hlt,hm,fun hc=>?_,fun hc=>?_⟩
  ·rw [if_pos hc] at h2;exact ⟨h2,trivial⟩
  ·rw [if_neg (by rw [hc]; simp)] at h2;exact ⟨by simp only [am]; omega,⟨by omega,by omega,h2⟩,by omega⟩
 ·rw [cq (by simpa using hge)] at h2;exact ⟨h2,trivial⟩
theorem nH:DU.ok Tryz.prog 163:=aF (ann:=E6) ap Tryz.func163 (by kernel_rfl) Al
def G2:Spec:={ Ts:=[cE,.ref ty_I],Rs:=[.dat .bool],pre:=fun _=>True,F:=fun ((s,at_):aw×Int)=>decide (s.1=at_) }
def w8:Prop :=
  ∀ (x:(Int×Int×Int×Int×Bool)×Int),(am .i64 x.1.1/\am .i64 x.1.2.1/\am .i64 x.1.2.2.1/\am .i64 x.1.2.2.2.1/\True)/\am .i64 x.2->True->decide (x.1.1=x.2)=decide (x.1.1=x.2)/\True
theorem Dw:w8:=by
 unfold w8;intro ⟨s,at_⟩ _ _;simp
theorem Hy:G2.ok Tryz.prog 164:=aF (ann:=cr) ap Tryz.func164 (by kernel_rfl) Dw
def ip:Obj:=(0,[],[],false)
def g9 (a:List Int) (at_:Int):Obj×Int :=
 if (ak a).2.2≠0 then (ip,(ak a).2.2) else if ag (fun s=>decide (s.1=at_)) 0 (ak a).1<0 then (ip,5)
 else (gU a ((ak a).1.getD (ag (fun s=>decide (s.1=at_)) 0 (ak a).1).toNat (0,0,0,0,false)) (ak a).2.1,0)
def GH:Spec:={ Ts:=[.arr bJ,ty_I],Rs:=[.dat DA,.dat ty_I],al:=true,pre:=fun _=>True,F:=fun ((a,at_):List Int×Int)=>g9 a at_ }
def wK:Prop :=
  ∀ (x:List Int×Int),(x.1.length * 8<=aL/\∀ (x_1:Int),x_1∈x.1->am .u64 x_1)/\am .i64 x.2->True->True/\(decide ((ak x.1).2.2≠0)=true->(0,([]:List Int),([]:List Int),false)=(g9 x.1 x.2).1/\(ak x.1).2.2=(g9 x.1 x.2).2/\True)/\(decide ((ak x.1).2.2≠0)=false->(∀ (s:aw),s∈(ak x.1).1->(fun (_:Int×Int×Int×Int×Bool)=>True,fun (x_1:Int×Int×Int×Int×Bool)=>decide (x_1.1=x.2)).1 s)/\(decide (ag (fun (x_1:Int×Int×Int×Int×Bool)=>decide (x_1.1=x.2)) 0 (ak x.1).1<0)=true->(0,([]:List Int),([]:List Int),false)=(g9 x.1 x.2).1/\5=(g9 x.1 x.2).2/\True)/\(decide (ag (fun (x_1:Int×Int×Int×Int×Bool)=>decide (x_1.1=x.2)) 0 (ak x.1).1<0)=false->0<=ag (fun (x_1:Int×Int×Int×Int×Bool)=>decide (x_1.1=x.2)) 0 (ak x.1).1/\ag (fun (x_1:Int×Int×Int×Int×Bool)=>decide (x_1.1=x.2)) 0 (ak x.1).1<(↑(ak x.1).1.length:Int)/\(x.1.length<=256/\dd x.1 ((ak x.1).1.getD (ag (fun (x_1:Int×Int×Int×Int×Bool)=>decide (x_1.1=x.2)) 0 (ak x.1).1).toNat (0,0,0,0,false)))/\gU x.1 ((ak x.1).1.getD (ag (fun (x_1:Int×Int×Int×Int×Bool)=>decide (x_1.1=x.2)) 0 (ak x.1).1).toNat (0,0,0,0,false)) (ak x.1).2.1=(g9 x.1 x.2).1/\0=(g9 x.1 x.2).2/\True))
theorem Dd:wK:=by
 unfold wK;intro ⟨a,at_⟩ _ _;have hin:=bg (a:=a)
 have hF:g9 a at_=if (ak a).2.2≠0 then (ip,(ak a).2.2) else if ag (fun s=>decide (s.1=at_)) 0 (ak a).1<0 then (ip,5)
   else (gU a ((ak a).1.getD (ag (fun s=>decide (s.1=at_)) 0 (ak a).1).toNat (0,0,0,0,false)) (ak a).2.1,0):=rfl
 simp only at *;generalize (ak a).1=l at *;have hlt:=dV (fun s:aw=>decide (s.1=at_)) (0,0,0,0,false) l 0 (by omega);rw [hF];refine ⟨trivial,fun hc=>?_,fun hc=>⟨fun _ _=>trivial,fun h2=>?_,fun h2=>?_⟩⟩
 ·have hc:(ak a).2.2≠0:=by simpa using hc
  rw [if_pos hc];exact ⟨rfl,rfl,trivial⟩
 ·have hc:(ak a).2.2=0:=by simpa using hc
  rw [if_neg (by omega),if_pos (Nw h2)];exact ⟨rfl,rfl,trivial⟩
 ·have hc:(ak a).2.2=0:=by simpa using hc
  have h2:=Nx h2;rw [if_neg (by omega),if_neg h2];obtain ⟨hal,hll,_,_,_,_,hsp⟩:=hin hc;have hlt':ag (fun s:aw=>decide (s.1=at_)) 0 l<(l.length:Int):=by omega
  have h2':0<=ag (fun s:aw=>decide (s.1=at_)) 0 l:=Int.not_lt.1 h2;exact ⟨h2',hlt',⟨hal,(hsp _ (aH _ h2' hlt')).1⟩,rfl,rfl,trivial⟩
theorem mR:GH.ok Tryz.prog 93:=aF (ann:=cr) (ae nh (ae vP (ae nH (ae Hy ap)))) Tryz.func93 (by kernel_rfl) Dd
end
section
def d9:LoopGen:={ rd:=[],A:=fun _=>{ cs:=[],inv:=fun _=>True,mu:=fun _=>0 } }
def cC (l:List Int) (n:Int):Int:=ag (fun x=>decide (x=n)) 0 l
def fx (l:List Int) (n:Int):Bool:=l.any fun x=>decide (x=n)
def KT:Spec:={ Ts:=[.arr ty_I,ty_I],Rs:=[.dat ty_I],pre:=fun _=>True,F:=fun ((l,v):List Int×Int)=>cC l v }
def LN:Nat->Option LoopGen
 | 2=>some { rd:=[.dat 0 (.arr ty_I),.dat 1 ty_I],A:=fun ((l,v):List Int×Int)=>{ cs:=[.dat 8 ty_I],inv:=fun (i:Int)=>0<=i/\i<=l.length/\ag (fun x=>decide (x=v)) i (l.drop i.toNat)=cC l v,mu:=fun (i:Int)=>(l.length - i).toNat } }
 | _=>none
def Fw:Prop :=
  ∀ (x:List Int×Int),(x.1.length * 8<=aL/\∀ (x_1:Int),x_1∈x.1->am .i64 x_1)/\am .i64 x.2->True->((0:Int)<=0/\0<=(x.1.length:Int)/\ag (fun (x_1:Int)=>decide (x_1=x.2)) 0 (List.drop (Int.toNat 0) x.1)=cC x.1 x.2)/\∀ (x_1:Int),0<=x_1/\x_1<=(x.1.length:Int)/\ag (fun (x_2:Int)=>decide (x_2=x.2)) x_1 (List.drop x_1.toNat x.1)=cC x.1 x.2->(decide (x_1<(x.1.length:Int))=true->0<=x_1/\x_1<(x.1.length:Int)/\(decide (x.2=x.1.getD x_1.toNat 0)=true->x_1=cC x.1 x.2/\True)/\(decide (x.2=x.1.getD x_1.toNat 0)=false->am .i64 (x_1+1)/\(0<=x_1+1/\x_1+1<=(x.1.length:Int)/\ag (fun (x_2:Int)=>decide (x_2=x.2)) (x_1+1) (List.drop (x_1+1).toNat x.1)=cC x.1 x.2)/\((x.1.length:Int) - (x_1+1)).toNat<((x.1.length:Int) - x_1).toNat))/\(decide (x_1<(x.1.length:Int))=false->(-1)=cC x.1 x.2/\True)
theorem Ir:Fw:=by
 unfold Fw;intro ⟨l,n⟩ ⟨⟨hb,_⟩,_⟩ _;unfold aL at hb;refine ⟨⟨by omega,by omega,rfl⟩,fun i ⟨h0,h1,h2⟩=>⟨fun hlt=>?_,fun hge=>?_⟩⟩
 ·have hlt:i<(l.length:Int):=by simpa using hlt
  simp only at *;rw [bz (0:Int) h0 hlt] at h2;simp only [ag] at h2;simp only [am];refine ⟨h0,hlt,fun hc=>?_,fun hc=>?_⟩
  ·rw [if_pos (OI (Nw hc).symm)] at h2;exact ⟨h2,trivial⟩
  ·rw [if_neg (fun e=>Nx hc (Nw e).symm)] at h2;exact ⟨by omega,⟨by omega,by omega,h2⟩,by omega⟩
 ·rw [cq (by simpa using hge)] at h2;exact ⟨h2,trivial⟩
theorem FL:KT.ok Tryz.prog 108:=aF (ann:=LN) ap Tryz.func108 (by kernel_rfl) Ir
def KU:Spec:={ Ts:=[.arr ty_I,ty_I],Rs:=[.dat .bool],pre:=fun _=>True,F:=fun ((l,v):List Int×Int)=>fx l v }
def Fx:Prop :=
  ∀ (x:List Int×Int),(x.1.length * 8<=aL/\∀ (x_1:Int),x_1∈x.1->am .i64 x_1)/\am .i64 x.2->True->True/\decide (0<=cC x.1 x.2)=fx x.1 x.2/\True
theorem Is:Fx:=by
 unfold Fx;intro ⟨l,v⟩ _ _;exact ⟨trivial,dX _ l 0 (by omega),trivial⟩
theorem yX:KU.ok Tryz.prog 39:=aF (ann:=cr) (ae FL ap) Tryz.func39 (by kernel_rfl) Is
def IX:Spec:={ Ts:=[.arr ty_I,.fn ty_I .bool],Rs:=[.dat ty_I],pre:=fun ((l,g):List Int×(Int->Prop)×(Int->Bool))=>∀ s∈l,g.1 s,F:=fun ((l,g):List Int×(Int->Prop)×(Int->Bool))=>ag g.2 0 l }
def Kv:Nat->Option LoopGen
 | 2=>some { rd:=[.dat 0 (.arr ty_I),.dat 1 (.fn ty_I .bool)],A:=fun ((l,g):List Int×(Int->Prop)×(Int->Bool))=>{ cs:=[.dat 8 ty_I],inv:=fun (i:Int)=>0<=i/\i<=l.length/\ag g.2 i (l.drop i.toNat)=ag g.2 0 l,mu:=fun (i:Int)=>(l.length - i).toNat } }
 | _=>none
def BJ:Prop :=
  ∀ (x:List Int×(Int->Prop)×(Int->Bool)),(x.1.length * 8<=aL/\∀ (x_1:Int),x_1∈x.1->am .i64 x_1)/\True->(∀ (s:Int),s∈x.1->x.2.1 s)->((0:Int)<=0/\0<=(x.1.length:Int)/\ag x.2.2 0 (List.drop (Int.toNat 0) x.1)=ag x.2.2 0 x.1)/\∀ (x_1:Int),0<=x_1/\x_1<=(x.1.length:Int)/\ag x.2.2 x_1 (List.drop x_1.toNat x.1)=ag x.2.2 0 x.1->(decide (x_1<(x.1.length:Int))=true->0<=x_1/\x_1<(x.1.length:Int)/\x.2.1 (x.1.getD x_1.toNat 0)/\(x.2.2 (x.1.getD x_1.toNat 0)=true->x_1=ag x.2.2 0 x.1/\True)/\(x.2.2 (x.1.getD x_1.toNat 0)=false->am .i64 (x_1+1)/\(0<=x_1+1/\x_1+1<=(x.1.length:Int)/\ag x.2.2 (x_1+1) (List.drop (x_1+1).toNat x.1)=ag x.2.2 0 x.1)/\((x.1.length:Int) - (x_1+1)).toNat<((x.1.length:Int) - x_1).toNat))/\(decide (x_1<(x.1.length:Int))=false->(-1)=ag x.2.2 0 x.1/\True)
theorem Gs:BJ:=by
 unfold BJ;intro ⟨l,g⟩ ⟨⟨hl,_⟩,_⟩ hp;unfold aL at *;refine ⟨⟨by omega,by omega,by simp⟩,fun i ⟨h0,h1,h2⟩=>⟨fun hlt=>?_,fun hge=>?_⟩⟩
 ·have hlt:i<(l.length:Int):=by simpa using hlt
  have e:=bz (0:Int) h0 hlt;have hm:=hp _ (aH (0:Int) h0 hlt);simp only at *;rw [e] at h2;simp only [ag] at h2;refine ⟨h0,hlt,hm,fun hc=>?_,fun hc=>?_⟩
  ·rw [if_pos hc] at h2;exact ⟨h2,trivial⟩
  ·rw [if_neg (by rw [hc]; simp)] at h2;exact ⟨by simp only [am]; omega,⟨by omega,by omega,h2⟩,by omega⟩
 ·rw [cq (by simpa using hge)] at h2;exact ⟨h2,trivial⟩
theorem BZ:IX.ok Tryz.prog 107:=aF (ann:=Kv) ap Tryz.func107 (by kernel_rfl) Gs
def KZ:Spec:={ Ts:=[.arr ty_I,.fn ty_I .bool],Rs:=[.dat .bool],pre:=fun ((l,g):List Int×(Int->Prop)×(Int->Bool))=>∀ s∈l,g.1 s,F:=fun ((l,g):List Int×(Int->Prop)×(Int->Bool))=>l.any g.2 }
def FC:Prop :=
  ∀ (x:List Int×(Int->Prop)×(Int->Bool)),(x.1.length * 8<=aL/\∀ (x_1:Int),x_1∈x.1->am .i64 x_1)/\True->(∀ (s:Int),s∈x.1->x.2.1 s)->(∀ (s:Int),s∈x.1->x.2.1 s)/\decide (0<=ag x.2.2 0 x.1)=x.1.any x.2.2/\True
theorem Ix:FC:=by
 unfold FC;intro ⟨l,g⟩ _ hp;exact ⟨hp,dX _ l 0 (by omega),trivial⟩
theorem yZ:KZ.ok Tryz.prog 37:=aF (ann:=cr) (ae BZ ap) Tryz.func37 (by kernel_rfl) Ix
def bb:List Int->Bool
 | x::y::l=>decide (x<y)&&bb (y::l)
 | _=>true
theorem yK:∀ {l:List Int},l.length<=1->bb l=true
 | [],_=>rfl
 | [_],_=>rfl
 | _::_::_,h=>by simp at h
def Kr:Nat->Option LoopGen
 | 2=>some { rd:=[.dat 0 (.arr ty_I)],A:=fun (l:List Int)=>{ cs:=[.dat 3 ty_I],inv:=fun (i:Int)=>1<=i/\i<=l.length+1/\bb (l.drop (i - 1).toNat)=bb l,mu:=fun (i:Int)=>(l.length - i).toNat } }
 | _=>none
def IP:Spec:={ Ts:=[.arr ty_I],Rs:=[.dat .bool],pre:=fun _=>True,F:=bb }
def BB:Prop :=
  ∀ (x:List Int),(x.length * 8<=aL/\∀ (x_1:Int),x_1∈x->am .i64 x_1)->True->((1:Int)<=1/\1<=(x.length:Int)+1/\bb (List.drop ((1:Int) - 1).toNat x)=bb x)/\∀ (x_1:Int),1<=x_1/\x_1<=(x.length:Int)+1/\bb (List.drop (x_1 - 1).toNat x)=bb x->(decide (x_1<(x.length:Int))=true->am .i64 (x_1 - 1)/\0<=x_1 - 1/\x_1 - 1<(x.length:Int)/\0<=x_1/\x_1<(x.length:Int)/\(decide (x.getD x_1.toNat 0<=x.getD (x_1 - 1).toNat 0)=true->false=bb x/\True)/\(decide (x.getD x_1.toNat 0<=x.getD (x_1 - 1).toNat 0)=false->am .i64 (x_1+1)/\(1<=x_1+1/\x_1+1<=(x.length:Int)+1/\bb (List.drop (x_1+1 - 1).toNat x)=bb x)/\((x.length:Int) - (x_1+1)).toNat<((x.length:Int) - x_1).toNat))/\(decide (x_1<(x.length:Int))=false->true=bb x/\True)
theorem Gk:BB:=by
 unfold BB;intro l ⟨hb,_⟩ _;unfold aL at hb;refine ⟨⟨by omega,by omega,rfl⟩,fun i ⟨h0,h1,h2⟩=>⟨fun hlt=>?_,fun hge=>?_⟩⟩
 ·have hlt:i<(l.length:Int):=Nw hlt;have e1:=bz (0:Int) (xs:=l) (i:=i - 1) (by omega) (by omega);have e2:=bz (0:Int) (xs:=l) (i:=i) (by omega) hlt;rw [show i - 1+1=i by omega] at e1;simp only [am] at h2 |-;rw [e1,e2] at h2;simp only [bb] at h2;rw [<- e2] at h2;refine ⟨by omega,by omega,by omega,by omega,hlt,fun hc=>?_,fun hc=>⟨by omega,⟨by omega,by omega,?_⟩,by omega⟩⟩
  ·have hc:=Nw hc;rw [<- h2,OP (by omega)];exact ⟨rfl,trivial⟩
  ·have hc:=Nx hc;rw [OI (by omega),OU] at h2;rw [show i+1 - 1=i by omega];exact h2
 ·have hge:¬ i<(l.length:Int):=Nx hge;rw [yK (by rw [NY]; omega)] at h2;exact ⟨h2,trivial⟩
theorem Jo:IP.ok Tryz.prog 288:=aF (ann:=Kr) ap Tryz.func288 (by kernel_rfl) Gk
end
section
def bU (at_:Int):List aw->dI×Bool
 | []=>(bK,false)
 | s::l=>if s.1=at_/\s.2.2.2.2=false then (s.2,true) else bU at_ l
theorem gl (at_:Int):∀ (l:List aw),bU at_ l=(bK,false)\/∃ s∈l,s.1=at_/\s.2.2.2.2=false/\bU at_ l=(s.2,true)
 | []=>.inl rfl
 | s::l=>by
  simp only [bU];split
  ·rename_i h;exact .inr ⟨s,by simp,h.1,h.2,rfl⟩
  ·rcases gl at_ l with h | ⟨t,h1,h2⟩
   ·exact .inl h
   ·exact .inr ⟨t,by simp [h1],h2⟩
def nameOf (v:Int):Int:=(if 256<v then 9999 else v) - 1
def aY:List aw->List Int
 | []=>[]
 | s::l=>if s.2.2.2.2=true then aY l else s.1::aY l
end
section
theorem jG:∀ l:List aw,(aY l).length<=l.length
 | []=>by simp [aY]
 | s::l=>by
  have:=jG l;simp only [aY];split <;> simp <;> omega
theorem eJ (a:List Int):∀ s∈(ac a).1,a.length<=256/\dd a s/\af s.2=0:=by
 intro s hs
 have hz:(ac a).2=0:=by
  unfold ac at hs |-;split at hs
  ·simp at hs
  ·rename_i cl;rw [if_neg cl];cases h:spotsS 0 a with
   | none=>rw [h] at hs; simp at hs
   | some l=>rfl
 have h:=gw hz;exact ⟨h.1,(h.2 s hs).1,(h.2 s hs).2⟩
end
section
theorem vB (at_:Int) (l:List Int) (r:List aw) (h:spotsS at_ l=some r):r.Pairwise (fun s t=>s.1<t.1):=by
 induction at_,l using spotsS.induct generalizing r with
 | case1 at_ =>
  simp only [spotsS,Jg] at h;subst h;exact List.Pairwise.nil
 | case2 at_ v l hv ih =>
  rw [cK hv.1 hv.2] at h;obtain ⟨r',hr,rfl⟩:=NB.1 h;have hl:=dR hv.1;refine Oc.2 ⟨fun t ht=>?_,ih r' hr⟩;have:=(p6 _ _ _ hr t ht).1;simp only;omega
 | case3 at_ v l hv =>
  rw [eH hv] at h;cases h
theorem bV (a:List Int):(ac a).1.Pairwise (fun s t=>s.1<t.1):=by
 unfold ac;split
 ·exact List.Pairwise.nil
 ·cases h:spotsS 0 a with
  | none=>exact List.Pairwise.nil
  | some l=>exact vB 0 a l h
theorem ji {α:Type} (k k':Int) (x:α):∀ (m:List (Int×α)),bq (fW m k x) k'=if k'=k then some x else bq m k'
 | []=>by
  simp only [fW,bq];by_cases h:k=k'
  ·simp [h]
  ·simp [h,Ne.symm h]
 | y::m=>by
  have ih:=ji k k' x m;simp only [fW];by_cases hy:y.1=k
  ·rw [if_pos hy];simp only [bq];by_cases h:k=k'
   ·simp [h]
   ·simp [h,Ne.symm h,hy]
  ·rw [if_neg hy];simp only [bq,ih];by_cases h:y.1=k'
   ·have:k'≠k:=fun e=>hy (h.trans e)
    simp [h,this]
   ·simp [h]
def mZ (v:Int):Int->List aw->Option Int
 | _,[]=>none
 | i,s::l=>if s.2.2.2.2=false/\s.1+1=v then some i else mZ v (i+1) l
theorem xd {v:Int}:∀ (l:List aw) (i:Int),(∀ s∈l,s.1+1≠v)->mZ v i l=none
 | [],_,_=>rfl
 | s::l,i,h=>by
  simp only [mZ];rw [if_neg (fun e=>h s (by simp) e.2)];exact xd l (i+1) (fun t ht=>h t (by simp [ht]))
theorem ju (v:Int):∀ (l:List aw) (m:List (Int×Int)) (i:Int),l.Pairwise (fun s t=>s.1<t.1)->bq (d6 m i l) v=(mZ v i l).or (bq m v)
 | [],m,i,_=>rfl
 | s::l,m,i,h=>by
  obtain ⟨h1,h2⟩:=Oc.1 h;simp only [d6,mZ];rw [ju v l _ (i+1) h2];cases hf:s.2.2.2.2
  ·simp only [NJ,N4,Pp];rw [ji];by_cases hv:s.1+1=v
   ·rw [xd l (i+1) (fun t ht e=>by have:=h1 t ht; omega),if_pos hv,if_pos hv.symm];rfl
   ·rw [if_neg hv,if_neg (fun e=>hv e.symm)]
  ·simp
theorem kL (v:Int):∀ (l:List aw) (i:Int),(mZ v i l).isSome=fx (aY l) (v - 1)
 | [],_=>rfl
 | s::l,i=>by
  have ih:=kL v l (i+1);simp only [mZ,aY];cases hf:s.2.2.2.2
  ·simp only [Pp,NJ,N4,fx,Pb];by_cases hv:s.1+1=v
   ·rw [if_pos hv];simp;left; omega
   ·rw [if_neg hv,ih];have:¬ s.1=v - 1:=by omega
    simp [this,fx]
  ·simp [ih]
theorem f9 (n:Int):∀ (l:List aw),(∀ s∈l,0<=s.1/\s.1<=255)->(n<0\/255<n)->fx (aY l) n=false
 | [],_,_=>rfl
 | s::l,h,hn=>by
  have ih:=f9 n l (fun t ht=>h t (by simp [ht])) hn;have hs:=h s (by simp);simp only [aY];split
  ·exact ih
  ·simp only [fx,Pb] at ih |-;rw [ih];simp;omega
theorem xc {l:List aw} (hs:l.Pairwise (fun s t=>s.1<t.1)) (hr:∀ s∈l,0<=s.1/\s.1<=255) {v:Int} (hv:0<=v) :
  (decide (nameOf v=-1)||fx (aY l) (nameOf v))=(bq (cA l) v).isSome:=by
 unfold cA;rw [ju v l _ 0 hs];by_cases h0:v=0
 ·subst h0;cases h:mZ 0 0 l <;> simp [nameOf,bq]
 ·have e1:bq [((0:Int),(-1:Int))] v=none:=by simp [bq,Ne.symm h0]
  rw [e1,Option.or_none,kL];by_cases hb:256<v
  ·have:nameOf v=9998:=by simp [nameOf,hb]
   rw [this,f9 9998 l hr (by omega),f9 (v - 1) l hr (by omega)];rfl
  ·have:nameOf v=v - 1:=by simp [nameOf,hb]
   rw [this];have:¬ v - 1=-1:=by omega
   simp [this]
theorem nO:∀ {l:List aw} {s:aw},l.Pairwise (fun s t=>s.1<t.1)->s∈l->s.2.2.2.2=false->bU s.1 l=(s.2,true)
 | t::l,s,hs,hm,hf=>by
  obtain ⟨h1,h2⟩:=Oc.1 hs;simp only [bU];rcases NG.1 hm with rfl | hm
  ·rw [if_pos ⟨rfl,hf⟩]
  ·rw [if_neg (fun e=>by have:=h1 s hm; omega)];exact nO h2 hm hf
theorem r9 {a:List Int} {s:aw} (hw:∀ x∈a,am .u64 x):∀ v∈aO a s,0<=v:=by
 intro v hv;exact (hw v (OZ (O0 hv))).1
theorem cJ {a:List Int}:∀ s∈(ac a).1,0<=s.1/\s.1<=255:=by
 intro s hs;obtain ⟨h1,h2,h3⟩:=eJ a s hs;unfold dd at h2;omega
def isB (l:List aw) (at_:Int):Bool:=(bU at_ l).2
theorem fw (n:Int):∀ l:List aw,fx (aY l) n=isB l n
 | []=>rfl
 | s::l=>by
  have ih:=fw n l;unfold isB at ih |-;simp only [aY,bU];cases hf:s.2.2.2.2
  ·simp only [NJ,N4,PF,fx,Pb];by_cases hv:s.1=n
   ·rw [if_pos hv];simp [hv]
   ·rw [if_neg hv];simp only [fx] at ih;rw [<- ih];simp [hv]
  ·simp only [if_true,and_false,N4,Bool.true_eq_false];exact ih
theorem nG {a:List Int} (hw:∀ x∈a,am .u64 x) (hc:(ak a).2.2=0):∀ s∈(ac a).1,∀ v∈aO a s,v=0\/1<=v/\v<=256/\isB (ac a).1 (v - 1)=true:=by
 intro s hs v hv;obtain ⟨_,_,_,_,_,hok,_⟩:=bg hc;have h1:=NH.1 (NH.1 hok s hs) v hv;have h0:=r9 hw v hv;rw [<- xc (bV a) cJ h0] at h1;by_cases hz:v=0
 ·exact .inl hz
 refine .inr ?_
 have hr:∀ n,fx (aY (ac a).1) n=true->0<=n/\n<=255:=fun n hn=>by
  refine ⟨Int.not_lt.1 fun h=>?_,Int.not_lt.1 fun h=>?_⟩
  ·rw [f9 n _ cJ (.inl h)] at hn; cases hn
  ·rw [f9 n _ cJ (.inr h)] at hn; cases hn
 unfold nameOf at h1;split at h1
 ·have h2:fx (aY (ac a).1) (9999 - 1)=true:=by simpa using h1
  have:=hr _ h2;omega
 ·have h2:fx (aY (ac a).1) (v - 1)=true:=by
   rcases Oj _ _ ▸ h1 with h | h
   ·have:=Nw h; omega
   ·exact h
  have:=hr _ h2;refine ⟨by omega,by omega,?_⟩;rw [<- fw];exact h2
theorem JL {a:List Int} {at_:Int} (h:isB (ac a).1 at_=true):(at_,(bU at_ (ac a).1).1)∈(ac a).1/\dd a (at_,(bU at_ (ac a).1).1)/\af (bU at_ (ac a).1).1=0/\(bU at_ (ac a).1).1.2.2.2=false/\a.length<=256:=by
 rcases gl at_ (ac a).1 with e | ⟨s,h1,h2,h3,e⟩
 ·unfold isB at h;rw [e] at h;cases h
 ·obtain ⟨k1,k2,k3⟩:=eJ a s h1;rw [e];simp only;subst h2;exact ⟨h1,k2,k3,h3,k1⟩
end
section
end
section
abbrev jp:Ty:=.pair ty_I ty_I
abbrev cR:=Int×Int
def DY:Spec:={ Ts:=[gc],Rs:=[.dat ty_I],pre:=fun _=>True,F:=fun (h:dI)=>(if af h=0 then aa h else 0:Int) }
def tQ:Prop :=
  ∀ (x:Int×Int×Int×Bool),am .i64 x.1/\am .i64 x.2.1/\am .i64 x.2.2.1/\True->True->True/\((if af x=0 then aa x else (0:Int))=if af x=0 then aa x else (0:Int))/\True
theorem Ap:tQ:=by
 unfold tQ;intro h _ _;simp
theorem tZ:DY.ok Tryz.prog 217:=aF (ann:=cr) (ae gT ap) Tryz.func217 (by kernel_rfl) Ap
def aR (a:List Int):List aw×Int:=if (ak a).2.2≠0 then ([],(ak a).2.2) else ((ac a).1,0)
def A9:Spec:={ Ts:=[.arr bJ],Rs:=[.own 202 cE,.dat ty_I],pre:=fun _=>True,F:=aR }
def rA:Prop :=
  ∀ (x:List Int),(x.length * 8<=aL/\∀ (x_1:Int),x_1∈x->am .u64 x_1)->True->True/\(decide ((ak x).2.2≠0)=true->([]:List (Int×Int×Int×Int×Bool))=(aR x).1/\(ak x).2.2=(aR x).2/\True)/\(decide ((ak x).2.2≠0)=false->True/\(ac x).1=(aR x).1/\(ac x).2=(aR x).2/\True)
theorem yd:rA:=by
 unfold rA;intro a _ _;have h:=bg (a:=a);unfold aR;refine ⟨trivial,fun hc=>?_,fun hc=>?_⟩
 ·have hc:(ak a).2.2≠0:=by simpa using hc
  rw [if_pos hc];exact ⟨rfl,rfl,trivial⟩
 ·have hc:(ak a).2.2=0:=by simpa using hc
  obtain ⟨_,_,_,h4,_⟩:=h hc;rw [if_neg (by omega),h4];exact ⟨trivial,rfl,rfl,trivial⟩
theorem mh:A9.ok Tryz.prog 212:=aF (ann:=cr) (ae i6 (ae iZ ap)) Tryz.func212 (by kernel_rfl) yd
def lN (out:List cR) (n:Int):List cR:=out.set (out.length - 1) ((out.getD (out.length - 1) (0,0)).1,(out.getD (out.length - 1) (0,0)).2+n)
def aM:Bool->List cR->List aw->List cR
 | _,out,[]=>out
 | p,out,s::l=>aM s.2.2.2.2 (if s.2.2.2.2=true then (if p=true then lN out (aa s.2) else out++[(s.1,aa s.2)]) else out) l
theorem fN (out:List cR) (n:Int):(lN out n).length=out.length:=by simp [lN]
def cT (l:List aw) (i:Int):Bool:=decide (0<i)&&(l.getD (i - 1).toNat (0,0,0,0,false)).2.2.2.2
def E9:Nat->Option LoopGen
 | 3=>some { rd:=[.dat 6 (.arr cE)],A:=fun (l:List aw)=>{ cs:=[.own 3 105 jp,.dat 8 ty_I],inv:=fun ((out,i):List cR×Int)=>0<=i/\i<=l.length/\l.length<=256/\(∀ s∈l,af s.2=0)/\out.length<=i/\(cT l i=true->0<out.length)/\(∀ r∈out,0<=r.2/\r.2<=256 * i)/\aM (cT l i) out (l.drop i.toNat)=aM false [] l,mu:=fun ((_,i):List cR×Int)=>(l.length - i).toNat } }
 | _=>none
def D0:Spec:={ Ts:=[.arr cE],Rs:=[.own 105 jp],pre:=fun (l:List aw)=>l.length<=256/\∀ s∈l,af s.2=0,F:=fun (l:List aw)=>aM false [] l }
def tS:Prop :=
  ∀ (x:List (Int×Int×Int×Int×Bool)),(x.length * (8+(8+(8+(8+8))))<=aL/\∀ (x_1:Int×Int×Int×Int×Bool),x_1∈x->am .i64 x_1.1/\am .i64 x_1.2.1/\am .i64 x_1.2.2.1/\am .i64 x_1.2.2.2.1/\True)->(x.length<=256/\∀ (s:aw),s∈x->af s.2=0)->((0:Int)<=0/\0<=(x.length:Int)/\x.length<=256/\(∀ (s:aw),s∈x->af s.2=0)/\(↑(0:Nat):Int)<=0/\(cT x 0=true->(0:Nat)<0)/\(∀ (r:cR),r∈([]:List (Int×Int))->0<=r.2/\r.2<=256 * 0)/\aM (cT x 0) ([]:List (Int×Int)) (List.drop (Int.toNat 0) x)=aM false ([]:List cR) x)/\∀ (x_1:List (Int×Int)×Int),(fun (v0:type_of% (x.getD x_1.2.toNat (0,0,0,0,false)))=>0<=x_1.2/\x_1.2<=(x.length:Int)/\x.length<=256/\(∀ (s:aw),s∈x->af s.2=0)/\(x_1.1.length:Int)<=x_1.2/\(cT x x_1.2=true->0<x_1.1.length)/\(∀ (r:cR),r∈x_1.1->0<=r.2/\r.2<=256 * x_1.2)/\aM (cT x x_1.2) x_1.1 (List.drop x_1.2.toNat x)=aM false ([]:List cR) x->(decide (x_1.2<(x.length:Int))=true->0<=x_1.2/\x_1.2<(x.length:Int)/\((!v0.2.2.2.2)=true->am .i64 (x_1.2+1)/\(0<=x_1.2+1/\x_1.2+1<=(x.length:Int)/\x.length<=256/\(∀ (s:aw),s∈x->af s.2=0)/\(x_1.1.length:Int)<=x_1.2+1/\(cT x (x_1.2+1)=true->0<x_1.1.length)/\(∀ (r:cR),r∈x_1.1->0<=r.2/\r.2<=256 * (x_1.2+1))/\aM (cT x (x_1.2+1)) x_1.1 (List.drop (x_1.2+1).toNat x)=aM false ([]:List cR) x)/\((x.length:Int) - (x_1.2+1)).toNat<((x.length:Int) - x_1.2).toNat)/\((!v0.2.2.2.2)=false->(decide (0<x_1.2)=true->am .i64 (x_1.2 - 1))/\(decide (0<x_1.2)=true->0<=x_1.2 - 1)/\(decide (0<x_1.2)=true->x_1.2 - 1<(x.length:Int))/\((decide (0<x_1.2)&&(x.getD (x_1.2 - 1).toNat (0,0,0,0,false)).2.2.2.2)=true->am .i64 ((x_1.1.length:Int) - 1)/\0<=(x_1.1.length:Int) - 1/\(x_1.1.length:Int) - 1<(x_1.1.length:Int)/\((x_1.1.length:Int) - 1).toNat<x_1.1.length/\True/\am .i64 ((x_1.1.getD ((x_1.1.length:Int) - 1).toNat (0,0)).2+if af v0.2=0 then aa v0.2 else (0:Int))/\0<=(x_1.1.length:Int) - 1/\(x_1.1.length:Int) - 1<(x_1.1.length:Int)/\((x_1.1.length:Int) - 1).toNat<x_1.1.length/\am .i64 (x_1.2+1)/\(0<=x_1.2+1/\x_1.2+1<=(x.length:Int)/\x.length<=256/\(∀ (s:aw),s∈x->af s.2=0)/\(↑(x_1.1.set ((x_1.1.length:Int) - 1).toNat ((x_1.1.getD ((x_1.1.length:Int) - 1).toNat (0,0)).1,(x_1.1.getD ((x_1.1.length:Int) - 1).toNat (0,0)).2+if af v0.2=0 then aa v0.2 else (0:Int))).length:Int)<=x_1.2+1/\(cT x (x_1.2+1)=true->0<(x_1.1.set ((x_1.1.length:Int) - 1).toNat ((x_1.1.getD ((x_1.1.length:Int) - 1).toNat (0,0)).1,(x_1.1.getD ((x_1.1.length:Int) - 1).toNat (0,0)).2+if af v0.2=0 then aa v0.2 else (0:Int))).length)/\(∀ (r:cR),r∈x_1.1.set ((x_1.1.length:Int) - 1).toNat ((x_1.1.getD ((x_1.1.length:Int) - 1).toNat (0,0)).1,(x_1.1.getD ((x_1.1.length:Int) - 1).toNat (0,0)).2+if af v0.2=0 then aa v0.2 else (0:Int))->0<=r.2/\r.2<=256 * (x_1.2+1))/\aM (cT x (x_1.2+1)) (x_1.1.set ((x_1.1.length:Int) - 1).toNat ((x_1.1.getD ((x_1.1.length:Int) - 1).toNat (0,0)).1,(x_1.1.getD ((x_1.1.length:Int) - 1).toNat (0,0)).2+if af v0.2=0 then aa v0.2 else (0:Int))) (List.drop (x_1.2+1).toNat x)=aM false ([]:List cR) x)/\((x.length:Int) - (x_1.2+1)).toNat<((x.length:Int) - x_1.2).toNat)/\((decide (0<x_1.2)&&(x.getD (x_1.2 - 1).toNat (0,0,0,0,false)).2.2.2.2)=false->True/\(x_1.1.length+[(v0.1,if af v0.2=0 then aa v0.2 else (0:Int))].length) * (8+8)<=aL/\am .i64 (x_1.2+1)/\(0<=x_1.2+1/\x_1.2+1<=(x.length:Int)/\x.length<=256/\(∀ (s:aw),s∈x->af s.2=0)/\(↑(x_1.1++[(v0.1,if af v0.2=0 then aa v0.2 else (0:Int))]).length:Int)<=x_1.2+1/\(cT x (x_1.2+1)=true->0<(x_1.1++[(v0.1,if af v0.2=0 then aa v0.2 else (0:Int))]).length)/\(∀ (r:cR),r∈x_1.1++[(v0.1,if af v0.2=0 then aa v0.2 else (0:Int))]->0<=r.2/\r.2<=256 * (x_1.2+1))/\aM (cT x (x_1.2+1)) (x_1.1++[(v0.1,if af v0.2=0 then aa v0.2 else (0:Int))]) (List.drop (x_1.2+1).toNat x)=aM false ([]:List cR) x)/\((x.length:Int) - (x_1.2+1)).toNat<((x.length:Int) - x_1.2).toNat)))/\(decide (x_1.2<(x.length:Int))=false->x_1.1=aM false ([]:List cR) x/\True)) (x.getD x_1.2.toNat (0,0,0,0,false))
theorem Ar:tS:=by
 unfold tS;intro l ⟨hb,_⟩ ⟨hl,hf⟩;refine ⟨⟨by omega,by omega,hl,hf,by simp,by simp [cT],by simp,by simp [cT]⟩,fun ⟨out,i⟩ ⟨h0,h1,_,_,h2,h3,h4,h5⟩=>⟨fun hlt=>?_,fun hge=>?_⟩⟩
 ·have hlt:i<(l.length:Int):=Nw hlt;simp only at h0 h1 h2 h3 h4 h5 |-;rw [bz ((0,0,0,0,false):aw) h0 hlt] at h5;simp only [aM] at h5;have hs:=hf _ (aH ((0,0,0,0,false):aw) h0 hlt)
  have hlf:cT l (i+1)=(l.getD i.toNat (0,0,0,0,false)).2.2.2.2:=by
   unfold cT;rw [show i+1 - 1=i by omega];simp;omega
  rw [hlf,if_pos hs];have hz:=aW hs;have hL:aa (l.getD i.toNat (0,0,0,0,false)).2=1+(l.getD i.toNat (0,0,0,0,false)).2.1+(l.getD i.toNat (0,0,0,0,false)).2.2.1:=rfl;have hlfi:cT l i=(decide (0<i)&&(l.getD (i - 1).toNat (0,0,0,0,false)).2.2.2.2):=rfl;rw [<- hlfi];generalize l.getD i.toNat (0,0,0,0,false)=s at *;generalize aa s.2=L at *;simp only [am];refine ⟨h0,hlt,fun hc=>?_,fun hc=>⟨fun hp=>by have:=Nw hp; omega,fun hp=>by have:=Nw hp; omega,fun _=>by omega,fun hp=>?_,fun hp=>?_⟩⟩
  ·have hc:s.2.2.2.2=false:=by simpa using hc
   rw [hc] at h5 |-;simp only [NJ,N4] at h5;exact ⟨by omega,⟨by omega,by omega,hl,hf,by omega,fun h=>by simp at h,fun r hr=>by have:=h4 r hr; omega,h5⟩,by omega⟩
  ·have hc:s.2.2.2.2=true:=by simpa using hc
   rw [hc,hp] at h5;simp only [if_true] at h5;rw [hc];have hlen:=h3 hp;have hlast:=h4 _ (aH ((0,0):cR) (xs:=out) (i:=(out.length:Int) - 1) (by omega) (by omega));have e:((out.length:Int) - 1).toNat=out.length - 1:=by omega
   rw [e] at hlast |-;have hbump:out.set (out.length - 1) ((out.getD (out.length - 1) (0,0)).1,(out.getD (out.length - 1) (0,0)).2+L)=lN out L:=rfl;rw [hbump];rw [fN];refine ⟨by omega,by omega,by omega,by omega,trivial,by omega,by omega,by omega,by omega,by omega,⟨by omega,by omega,hl,hf,by omega,fun _=>hlen,fun r hr=>?_,h5⟩,by omega⟩;rcases Og hr with hr | rfl
   ·have:=h4 r hr; omega
   ·simp only; omega
  ·have hc:s.2.2.2.2=true:=by simpa using hc
   rw [hc,hp] at h5;simp only [if_true,NJ,N4] at h5;rw [hc];unfold aL;simp only [NE,NC,N8];refine ⟨trivial,by omega,by omega,⟨by omega,by omega,hl,hf,by omega,fun _=>by omega,fun r hr=>?_,h5⟩,by omega⟩;rcases NI.1 hr with hr | hr
   ·have:=h4 r hr; omega
   ·simp only [NL] at hr;subst hr;simp only;omega
 ·have hge:¬ i<(l.length:Int):=Nx hge;simp only at h5;rw [cq hge] at h5;exact ⟨h5,trivial⟩
theorem t6:D0.ok Tryz.prog 213:=aF (ann:=E9) (ae tZ ap) Tryz.func213 (by kernel_rfl) Ar
def an (a:List Int):List cR×Int:=if (ak a).2.2≠0 then ([],(ak a).2.2) else (aM false [] (ac a).1,0)
def A8:Spec:={ Ts:=[.arr bJ],Rs:=[.own 105 jp,.dat ty_I],pre:=fun _=>True,F:=an }
def rz:Prop :=
  ∀ (x:List Int),(x.length * 8<=aL/\∀ (x_1:Int),x_1∈x->am .u64 x_1)->True->True/\(decide ((aR x).2≠0)=true->([]:List (Int×Int))=(an x).1/\(aR x).2=(an x).2/\True)/\(decide ((aR x).2≠0)=false->((aR x).1.length<=256/\∀ (s:aw),s∈(aR x).1->af s.2=0)/\aM false ([]:List cR) (aR x).1=(an x).1/\0=(an x).2/\True)
theorem yc:rz:=by
 unfold rz;intro a _ _;have h:=bg (a:=a);have hlen:=eZ a;unfold aR an;refine ⟨trivial,fun hc=>?_,fun hc=>?_⟩
 ·have hc:(ak a).2.2≠0:=by
   intro e;rw [if_neg (by omega)] at hc;simp at hc
  rw [if_pos hc,if_pos hc];exact ⟨rfl,rfl,trivial⟩
 ·have hc:(ak a).2.2=0:=by
   apply Ok;intro e;rw [if_pos e] at hc;simp [e] at hc
  obtain ⟨_,_,h3,h4,_,_,h5⟩:=h hc;rw [if_neg (by omega),if_neg (by omega)];rw [h3] at h5;exact ⟨⟨hlen,fun s hs=>(h5 s hs).2⟩,rfl,rfl,trivial⟩
theorem jV:A8.ok Tryz.prog 154:=aF (ann:=cr) (ae mh (ae t6 ap)) Tryz.func154 (by kernel_rfl) yc
def aT (a:List Int) (at_ n:Int):List Int:=if 0<n then (eC a at_ n 0 n).set at_.toNat (aB (0,n - 1,0,true)) else a
def ie (a:List Int) (at_ n:Int):Prop:=0<=at_/\0<=n/\at_+n<=a.length/\a.length<=256
theorem uB {a:List Int} {at_ n v:Int} (h:ie a at_ n):hZ a at_ n v=(eC a at_ n v n,0):=by
 obtain ⟨h1,h2,h3,h4⟩:=h
 have:em a.length n [at_]=0:=by
  rw [AB,if_neg (by omega),if_pos];rw [m6];omega
 unfold hZ;rw [if_pos this]
def KR:Spec:={ Ts:=[.arr bJ,ty_I,ty_I],Rs:=[.own 45 bJ],pre:=fun ((a,at_,n):List Int×Int×Int)=>ie a at_ n/\1<=n,F:=fun ((a,at_,n):List Int×Int×Int)=>aT a at_ n }
def Fv:Prop :=
  ∀ (x:List Int×Int×Int),(x.1.length * 8<=aL/\∀ (x_1:Int),x_1∈x.1->am .u64 x_1)/\am .i64 x.2.1/\am .i64 x.2.2->ie x.1 x.2.1 x.2.2/\1<=x.2.2->(decide (x.2.2=0)=true->False)/\(decide (x.2.2=0)=false->am .i64 (x.2.2 - 1)/\True/\True/\0<=x.2.1/\x.2.1<(↑(hZ x.1 x.2.1 x.2.2 0).1.length:Int)/\x.2.1.toNat<(hZ x.1 x.2.1 x.2.2 0).1.length/\(hZ x.1 x.2.1 x.2.2 0).1.set x.2.1.toNat (if af (0,x.2.2 - 1,0,true)=0 then aB (0,x.2.2 - 1,0,true) else (0:Int))=aT x.1 x.2.1 x.2.2/\True)
theorem Iq:Fv:=by
 unfold Fv;intro ⟨a,at_,n⟩ _ ⟨hp,h1⟩;simp only at hp h1 |-;rw [uB hp];obtain ⟨p1,p2,p3,p4⟩:=hp;have hf:af (0,n - 1,0,true)=0:=by simp [af,aa]; omega
 have hl:=fK a at_ n 0 n p1 p3 p2 (by omega);rw [if_pos hf];have hE:aT a at_ n=(eC a at_ n 0 n).set at_.toNat (aB (0,n - 1,0,true)):=by unfold aT; rw [if_pos (by omega)]
 rw [hE];simp only [am];exact ⟨fun h=>by have:=Nw h; omega,fun _=>⟨by omega,trivial,trivial,by omega,by omega,by omega,trivial,trivial⟩⟩
theorem Lc:KR.ok Tryz.prog 215:=aF (ann:=cr) (ae iE (ae mg ap)) Tryz.func215 (by kernel_rfl) Iq
def KQ:Spec:={ Ts:=[.arr bJ,ty_I,ty_I],Rs:=[.dat (.arr bJ)],al:=true,pre:=fun ((a,at_,n):List Int×Int×Int)=>ie a at_ n,F:=fun ((a,at_,n):List Int×Int×Int)=>aT a at_ n }
def Fu:Prop :=
  ∀ (x:List Int×Int×Int),(x.1.length * 8<=aL/\∀ (x_1:Int),x_1∈x.1->am .u64 x_1)/\am .i64 x.2.1/\am .i64 x.2.2->ie x.1 x.2.1 x.2.2->(decide (x.2.2=0)=true->x.1=aT x.1 x.2.1 x.2.2/\True)/\(decide (x.2.2=0)=false->am .i64 (x.2.2 - 1)/\True/\True/\0<=x.2.1/\x.2.1<(↑(hZ x.1 x.2.1 x.2.2 0).1.length:Int)/\x.2.1.toNat<(hZ x.1 x.2.1 x.2.2 0).1.length/\(hZ x.1 x.2.1 x.2.2 0).1.set x.2.1.toNat (if af (0,x.2.2 - 1,0,true)=0 then aB (0,x.2.2 - 1,0,true) else (0:Int))=aT x.1 x.2.1 x.2.2/\True)
theorem Ip:Fu:=by
 unfold Fu;intro ⟨a,at_,n⟩ _ hp;simp only at hp |-;rw [uB hp];obtain ⟨p1,p2,p3,p4⟩:=hp;refine ⟨fun h=>?_,fun h=>?_⟩
 ·have h:=Nw h;unfold aT;rw [if_neg (by omega)];exact ⟨rfl,trivial⟩
 ·have h:=Nx h;have hf:af (0,n - 1,0,true)=0:=by simp [af,aa]; omega
  have hl:=fK a at_ n 0 n p1 p3 p2 (by omega);rw [if_pos hf];have hE:aT a at_ n=(eC a at_ n 0 n).set at_.toNat (aB (0,n - 1,0,true)):=by unfold aT; rw [if_pos (by omega)]
  rw [hE];simp only [am];exact ⟨by omega,trivial,trivial,by omega,by omega,by omega,trivial,trivial⟩
theorem Lb:KQ.ok Tryz.prog 215:=aF (ann:=cr) (ae iE (ae mg ap)) Tryz.func215 (by kernel_rfl) Ip
def cD (a:List Int):List Int×Int:=if (ak a).2.2≠0 then ([],(ak a).2.2) else ((aM false [] (ac a).1).foldl (fun a r=>aT a r.1 r.2) a,0)
theorem sx {a:List Int} {at_ n:Int} (h:ie a at_ n):(aT a at_ n).length=a.length:=by
 obtain ⟨p1,p2,p3,p4⟩:=h;unfold aT;split
 ·rw [O7];exact fK a at_ n 0 n p1 p3 p2 (by omega)
 ·rfl
def fl:Int->Int->List aw->Prop
 | s,e,[]=>s=e
 | s,e,x::r=>x.1=s/\1<=aa x.2/\fl (s+aa x.2) e r
theorem oz (at_:Int) (l:List Int) (r:List aw) (h:spotsS at_ l=some r):fl at_ (at_+l.length) r:=by
 induction at_,l using spotsS.induct generalizing r with
 | case1 at_ =>
  simp only [spotsS,Jg] at h;subst h;simp [fl]
 | case2 at_ v l hv ih =>
  rw [cK hv.1 hv.2] at h;obtain ⟨r',hr,rfl⟩:=NB.1 h;have hl:=dR hv.1;have h2:=ih r' hr;refine ⟨rfl,hl.1,?_⟩
  have e:at_+aa (aU v)+(((v::l).drop (aa (aU v)).toNat).length:Nat)=at_+((v::l).length:Nat):=by
   rw [NY];have:=hv.2;omega
  rw [e] at h2;exact h2
 | case3 at_ v l hv =>
  rw [eH hv] at h;cases h
theorem fG {a:List Int} (h:(ac a).2=0):fl 0 a.length (ac a).1:=by
 unfold ac at h |-;split at h
 ·simp at h
 rename_i cl;rw [if_neg cl];cases e:spotsS 0 a with
 | none=>rw [e] at h; simp at h
 | some l =>
  have:=oz 0 a l e;rw [Int.zero_add] at this;exact this
def mt (n:Int) (l:List cR):Prop:=∀ r∈l,0<=r.1/\1<=r.2/\r.1+r.2<=n
theorem pw:∀ (l:List aw) (s e:Int) (p:Bool) (out:List cR),fl s e l->0<=s->mt s out->(p=true->0<out.length/\(out.getD (out.length - 1) (0,0)).1+(out.getD (out.length - 1) (0,0)).2=s)->mt e (aM p out l)/\s<=e
 | [],s,e,p,out,ht,h0,ho,_=>by
  have:s=e:=ht;subst this;exact ⟨ho,O1 _⟩
 | x::l,s,e,p,out,⟨h1,h2,h3⟩,h0,ho,hp=>by
  simp only [aM];have up:mt (s+aa x.2) out:=fun r hr=>by have:=ho r hr; omega
  cases hf:x.2.2.2.2
  ·have ih:=pw l _ e false out h3 (by omega) up (fun h=>by cases h);simp only [NJ,N4];exact ⟨ih.1,by omega⟩
  ·simp only [if_true];cases p
   ·have ih:=pw l _ e true (out++[(x.1,aa x.2)]) h3 (by omega) (fun r hr=>by
     rcases NI.1 hr with hr | hr
     ·exact up r hr
     ·simp only [NL] at hr;subst hr;simp only;omega) (fun _=>⟨by simp,by simp; omega⟩)
    simp only [NJ,N4];exact ⟨ih.1,by omega⟩
   ·obtain ⟨q1,q2⟩:=hp rfl;have hlast:=ho _ (aH ((0,0):cR) (xs:=out) (i:=(out.length:Int) - 1) (by omega) (by omega));rw [show ((out.length:Int) - 1).toNat=out.length - 1 by omega] at hlast
    have ih:=pw l _ e true (lN out (aa x.2)) h3 (by omega) (fun r hr=>by
     rcases Og hr with hr | rfl
     ·exact up r hr
     ·simp only
      omega) (fun _=>⟨by rw [fN]; exact q1,by
       rw [fN];unfold lN;simp [show out.length - 1<out.length by omega];simp [show out.length - 1<out.length by omega] at q2;omega⟩)
    simp only [if_true];exact ⟨ih.1,by omega⟩
theorem pu:∀ (l:List aw) (p:Bool) (out:List cR),(aM p out l).length<=out.length+l.length
 | [],_,_=>by simp [aM]
 | x::l,p,out=>by
  have h1:=pu l x.2.2.2.2 (if x.2.2.2.2=true then (if p=true then lN out (aa x.2) else out++[(x.1,aa x.2)]) else out);simp only [aM,NC]
  have:(if x.2.2.2.2=true then (if p=true then lN out (aa x.2) else out++[(x.1,aa x.2)]) else out).length<=out.length+1:=by
   split
   ·split
    ·rw [fN]; omega
    ·simp
   ·omega
  omega
theorem mU {a:List Int} (h:(ac a).2=0):mt a.length (aM false [] (ac a).1)/\(aM false [] (ac a).1).length<=256:=by
 have h1:=pw _ 0 a.length false [] (fG h) (O1 _) (fun r hr=>by cases hr) (fun h=>by cases h);have h2:=pu (ac a).1 false [];have h3:=eZ a;exact ⟨h1.1,by simp at h2; omega⟩
def E8:Nat->Option LoopGen
 | 6=>some { rd:=[.own 19 105 jp,.own 0 45 bJ],A:=fun ((g,b):List cR×List Int)=>{ cs:=[.own 0 45 bJ,.dat 21 ty_I],inv:=fun ((a,i):List Int×Int)=>0<=i/\i<=g.length/\g.length<=256/\a.length<=256/\mt a.length g/\a=(g.take i.toNat).foldl (fun a r=>aT a r.1 r.2) b,mu:=fun ((_,i):List Int×Int)=>(g.length - i).toNat } }
 | _=>none
def DZ:Spec:={ Ts:=[.arr bJ],Rs:=[.own 45 bJ,.dat ty_I],pre:=fun _=>True,F:=cD }
def tR:Prop :=
  ∀ (x:List Int),(x.length * 8<=aL/\∀ (x_1:Int),x_1∈x->am .u64 x_1)->True->True/\(decide ((aR x).2≠0)=true->([]:List Int)=(cD x).1/\(aR x).2=(cD x).2/\True)/\(decide ((aR x).2≠0)=false->True/\((aR x).1.length<=256/\∀ (s:aw),s∈(aR x).1->af s.2=0)/\((0:Int)<=0/\0<=(↑(aM false ([]:List cR) (aR x).1).length:Int)/\(aM false ([]:List cR) (aR x).1).length<=256/\x.length<=256/\mt (x.length:Int) (aM false ([]:List cR) (aR x).1)/\x=List.foldl (fun (a:List Int) (r:cR)=>aT a r.1 r.2) x (List.take (Int.toNat 0) (aM false ([]:List cR) (aR x).1)))/\∀ (x_1:List Int×Int),0<=x_1.2/\x_1.2<=(↑(aM false ([]:List cR) (aR x).1).length:Int)/\(aM false ([]:List cR) (aR x).1).length<=256/\x_1.1.length<=256/\mt (x_1.1.length:Int) (aM false ([]:List cR) (aR x).1)/\x_1.1=List.foldl (fun (a:List Int) (r:cR)=>aT a r.1 r.2) x (List.take x_1.2.toNat (aM false ([]:List cR) (aR x).1))->(decide (x_1.2<(↑(aM false ([]:List cR) (aR x).1).length:Int))=true->0<=x_1.2/\x_1.2<(↑(aM false ([]:List cR) (aR x).1).length:Int)/\x_1.2.toNat<(aM false ([]:List cR) (aR x).1).length/\(ie x_1.1 ((aM false ([]:List cR) (aR x).1).getD x_1.2.toNat (0,0)).1 ((aM false ([]:List cR) (aR x).1).getD x_1.2.toNat (0,0)).2/\1<=((aM false ([]:List cR) (aR x).1).getD x_1.2.toNat (0,0)).2)/\am .i64 (x_1.2+1)/\(0<=x_1.2+1/\x_1.2+1<=(↑(aM false ([]:List cR) (aR x).1).length:Int)/\(aM false ([]:List cR) (aR x).1).length<=256/\(aT x_1.1 ((aM false ([]:List cR) (aR x).1).getD x_1.2.toNat (0,0)).1 ((aM false ([]:List cR) (aR x).1).getD x_1.2.toNat (0,0)).2).length<=256/\mt (↑(aT x_1.1 ((aM false ([]:List cR) (aR x).1).getD x_1.2.toNat (0,0)).1 ((aM false ([]:List cR) (aR x).1).getD x_1.2.toNat (0,0)).2).length:Int) (aM false ([]:List cR) (aR x).1)/\aT x_1.1 ((aM false ([]:List cR) (aR x).1).getD x_1.2.toNat (0,0)).1 ((aM false ([]:List cR) (aR x).1).getD x_1.2.toNat (0,0)).2=List.foldl (fun (a:List Int) (r:cR)=>aT a r.1 r.2) x (List.take (x_1.2+1).toNat (aM false ([]:List cR) (aR x).1)))/\((↑(aM false ([]:List cR) (aR x).1).length:Int) - (x_1.2+1)).toNat<((↑(aM false ([]:List cR) (aR x).1).length:Int) - x_1.2).toNat)/\(decide (x_1.2<(↑(aM false ([]:List cR) (aR x).1).length:Int))=false->x_1.1=(cD x).1/\0=(cD x).2/\True))
theorem Aq:tR:=by
 unfold tR;intro a _ _;have h:=bg (a:=a);have hlen:=eZ a;unfold aR cD;refine ⟨trivial,fun hc=>?_,fun hc=>?_⟩
 ·have hc:(ak a).2.2≠0:=by
   intro e;rw [if_neg (by omega)] at hc;simp at hc
  rw [if_pos hc,if_pos hc];exact ⟨rfl,rfl,trivial⟩
 ·have hc:(ak a).2.2=0:=by
   apply Ok;intro e;rw [if_pos e] at hc;simp [e] at hc
  obtain ⟨hal,_,h3,h4,_,_,h5⟩:=h hc;rw [if_neg (by omega),if_neg (by omega)];rw [h3] at h5;obtain ⟨g1,g2⟩:=mU h4;simp only;generalize aM false [] (ac a).1=g at *;refine ⟨trivial,⟨hlen,fun s hs=>(h5 s hs).2⟩,⟨by omega,by omega,g2,hal,g1,rfl⟩,fun ⟨b,i⟩ ⟨q0,q1,_,q2,q3,q4⟩=>⟨fun hlt=>?_,fun hge=>?_⟩⟩
  ·have hlt:i<(g.length:Int):=Nw hlt;simp only at q0 q1 q2 q3 q4 |-;have e:=bx ((0,0):cR) q0 hlt;have hr:=q3 _ (aH ((0,0):cR) q0 hlt);rw [e,Qh,<- q4];generalize g.getD i.toNat (0,0)=r at *;have hp:ie b r.1 r.2:=⟨hr.1,by omega,hr.2.2,q2⟩;rw [sx hp];simp only [am];exact ⟨q0,hlt,by omega,⟨hp,hr.2.1⟩,by omega,⟨by omega,by omega,g2,q2,q3,rfl⟩,by omega⟩
  ·have hge:¬ i<(g.length:Int):=Nx hge;simp only at q4;rw [cn hge] at q4;exact ⟨q4,trivial,trivial⟩
theorem Et:DZ.ok Tryz.prog 156:=aF (ann:=E8) (ae mh (ae bC (ae t6 (ae Lc ap)))) Tryz.func156 (by kernel_rfl) Aq
def bS (l:List aw) (at_:Int) (fr:Bool):aw×Bool :=
 if ag (fun s:aw=>decide (s.1=at_)&&s.2.2.2.2 == fr) 0 l<0 then ((0,0,0,0,false),false) else (l.getD (ag (fun s:aw=>decide (s.1=at_)&&s.2.2.2.2 == fr) 0 l).toNat (0,0,0,0,false),true)
def IY:Spec:={ Ts:=[cE,.ref ty_I,.ref .bool],Rs:=[.dat .bool],pre:=fun _=>True,F:=fun ((s,at_,fr):aw×Int×Bool)=>decide (s.1=at_)&&s.2.2.2.2 == fr }
def BK:Prop :=
  ∀ (x:(Int×Int×Int×Int×Bool)×Int×Bool),(am .i64 x.1.1/\am .i64 x.1.2.1/\am .i64 x.1.2.2.1/\am .i64 x.1.2.2.2.1/\True)/\am .i64 x.2.1/\True->True->(decide (x.1.1=x.2.1)&&x.1.2.2.2.2 == x.2.2)=(decide (x.1.1=x.2.1)&&x.1.2.2.2.2 == x.2.2)/\True
theorem Gt:BK:=by
 unfold BK;intro ⟨s,at_,fr⟩ _ _;simp
theorem Jw:IY.ok Tryz.prog 252:=aF (ann:=cr) ap Tryz.func252 (by kernel_rfl) Gt
def D1:Spec:={ Ts:=[.arr cE,ty_I,.bool],Rs:=[.dat cE,.dat .bool],pre:=fun _=>True,F:=fun ((l,at_,fr):List aw×Int×Bool)=>bS l at_ fr }
def tT:Prop :=
  ∀ (x:List (Int×Int×Int×Int×Bool)×Int×Bool),(x.1.length * (8+(8+(8+(8+8))))<=aL/\∀ (x_1:Int×Int×Int×Int×Bool),x_1∈x.1->am .i64 x_1.1/\am .i64 x_1.2.1/\am .i64 x_1.2.2.1/\am .i64 x_1.2.2.2.1/\True)/\am .i64 x.2.1/\True->True->(∀ (s:aw),s∈x.1->(fun (_:Int×Int×Int×Int×Bool)=>True,fun (x_1:Int×Int×Int×Int×Bool)=>decide (x_1.1=x.2.1)&&x_1.2.2.2.2 == x.2.2).1 s)/\(decide (ag (fun (x_1:Int×Int×Int×Int×Bool)=>decide (x_1.1=x.2.1)&&x_1.2.2.2.2 == x.2.2) 0 x.1<0)=true->(0,0,0,0,false)=(bS x.1 x.2.1 x.2.2).1/\false=(bS x.1 x.2.1 x.2.2).2/\True)/\(decide (ag (fun (x_1:Int×Int×Int×Int×Bool)=>decide (x_1.1=x.2.1)&&x_1.2.2.2.2 == x.2.2) 0 x.1<0)=false->0<=ag (fun (x_1:Int×Int×Int×Int×Bool)=>decide (x_1.1=x.2.1)&&x_1.2.2.2.2 == x.2.2) 0 x.1/\ag (fun (x_1:Int×Int×Int×Int×Bool)=>decide (x_1.1=x.2.1)&&x_1.2.2.2.2 == x.2.2) 0 x.1<(x.1.length:Int)/\x.1.getD (ag (fun (x_1:Int×Int×Int×Int×Bool)=>decide (x_1.1=x.2.1)&&x_1.2.2.2.2 == x.2.2) 0 x.1).toNat (0,0,0,0,false)=(bS x.1 x.2.1 x.2.2).1/\true=(bS x.1 x.2.1 x.2.2).2/\True)
theorem As:tT:=by
 unfold tT;intro ⟨l,at_,fr⟩ _ _;simp only;have hlt:=dV (fun s:aw=>decide (s.1=at_)&&s.2.2.2.2 == fr) (0,0,0,0,false) l 0 (by omega);unfold bS;refine ⟨fun _ _=>trivial,fun h=>?_,fun h=>?_⟩
 ·rw [if_pos (Nw h)];exact ⟨rfl,rfl,trivial⟩
 ·rw [if_neg (Nx h)];have h1:0<=ag (fun s:aw=>decide (s.1=at_)&&s.2.2.2.2 == fr) 0 l:=Int.not_lt.1 (Nx h);have h2:ag (fun s:aw=>decide (s.1=at_)&&s.2.2.2.2 == fr) 0 l<(l.length:Int):=by omega
  exact ⟨h1,h2,rfl,rfl,trivial⟩
theorem Eu:D1.ok Tryz.prog 216:=aF (ann:=cr) (ae nH (ae Jw ap)) Tryz.func216 (by kernel_rfl) As
theorem uA (l:List aw) (at_:Int) (fr:Bool) (h:(bS l at_ fr).2=true):(bS l at_ fr).1∈l/\(bS l at_ fr).1.1=at_/\(bS l at_ fr).1.2.2.2.2=fr:=by
 have hlt:=dV (fun s:aw=>decide (s.1=at_)&&s.2.2.2.2 == fr) (0,0,0,0,false) l 0 (by omega);have his:=dW (fun s:aw=>decide (s.1=at_)&&s.2.2.2.2 == fr) (0,0,0,0,false) l 0;unfold bS at h |-;split at h
 ·cases h
 ·rename_i hn;rw [if_neg hn];have his:=his (by omega) (by omega);rw [Ps] at his;simp only [NA,N5,PN] at his;exact ⟨aH _ (by omega) (by omega),his.1,his.2⟩
theorem zg {a:List Int}:(aR a).2=(ak a).2.2:=by
 unfold aR;split
 ·rfl
 ·simp only; omega
theorem xx {a:List Int} (h:(ak a).2.2=0):(aR a).1=(ac a).1/\a.length<=256/\∀ s∈(ac a).1,dd a s/\af s.2=0:=by
 obtain ⟨h1,_,h3,_,_,_,h5⟩:=bg h;rw [h3] at h5;unfold aR;rw [if_neg (by omega)];exact ⟨rfl,h1,h5⟩
def ix (a:List Int) (at_:Int) (h:dI):List Int×Int :=
 if af h≠0 then ([],af h) else if h.2.2.2=true then ([],3) else if (ak a).2.2≠0 then ([],(ak a).2.2)
 else if (bS (ac a).1 at_ true).2=false then ([],5) else if aa (bS (ac a).1 at_ true).1.2<aa h then ([],7)
 else (aT ((eC a at_ (aa (bS (ac a).1 at_ true).1.2) 0 (aa (bS (ac a).1 at_ true).1.2)).set at_.toNat (aB h)) (at_+aa h) (aa (bS (ac a).1 at_ true).1.2 - aa h),0)
def DX:Spec:={ Ts:=[.arr bJ,ty_I,gc],Rs:=[.dat (.arr bJ),.dat ty_I],al:=true,pre:=fun _=>True,F:=fun ((a,at_,h):List Int×Int×dI)=>ix a at_ h }
def tP:Prop :=
  ∀ (x:List Int×Int×Int×Int×Int×Bool),(fun (v1:type_of% (ix x.1 x.2.1 x.2.2))=>(fun (v0:type_of% (bS (aR x.1).1 x.2.1 true))=>(x.1.length * 8<=aL/\∀ (x_1:Int),x_1∈x.1->am .u64 x_1)/\am .i64 x.2.1/\am .i64 x.2.2.1/\am .i64 x.2.2.2.1/\am .i64 x.2.2.2.2.1/\True->True->True/\(decide (af x.2.2≠0)=true->([]:List Int)=v1.1/\af x.2.2=v1.2/\True)/\(decide (af x.2.2≠0)=false->(x.2.2.2.2.2=true->([]:List Int)=v1.1/\3=v1.2/\True)/\(x.2.2.2.2.2=false->True/\(decide ((aR x.1).2≠0)=true->([]:List Int)=v1.1/\(aR x.1).2=v1.2/\True)/\(decide ((aR x.1).2≠0)=false->True/\((!v0.2)=true->([]:List Int)=v1.1/\5=v1.2/\True)/\((!v0.2)=false->True/\True/\(decide ((if af v0.1.2=0 then aa v0.1.2 else (0:Int))<if af x.2.2=0 then aa x.2.2 else (0:Int))=true->([]:List Int)=v1.1/\7=v1.2/\True)/\(decide ((if af v0.1.2=0 then aa v0.1.2 else (0:Int))<if af x.2.2=0 then aa x.2.2 else (0:Int))=false->True/\True/\0<=x.2.1/\x.2.1<(↑(hZ x.1 x.2.1 (if af v0.1.2=0 then aa v0.1.2 else (0:Int)) 0).1.length:Int)/\x.2.1.toNat<(hZ x.1 x.2.1 (if af v0.1.2=0 then aa v0.1.2 else (0:Int)) 0).1.length/\True/\am .i64 (x.2.1+if af x.2.2=0 then aa x.2.2 else (0:Int))/\True/\True/\am .i64 ((if af v0.1.2=0 then aa v0.1.2 else (0:Int)) - if af x.2.2=0 then aa x.2.2 else (0:Int))/\ie ((hZ x.1 x.2.1 (if af v0.1.2=0 then aa v0.1.2 else (0:Int)) 0).1.set x.2.1.toNat (if af x.2.2=0 then aB x.2.2 else (0:Int))) (x.2.1+if af x.2.2=0 then aa x.2.2 else (0:Int)) ((if af v0.1.2=0 then aa v0.1.2 else (0:Int)) - if af x.2.2=0 then aa x.2.2 else (0:Int))/\aT ((hZ x.1 x.2.1 (if af v0.1.2=0 then aa v0.1.2 else (0:Int)) 0).1.set x.2.1.toNat (if af x.2.2=0 then aB x.2.2 else (0:Int))) (x.2.1+if af x.2.2=0 then aa x.2.2 else (0:Int)) ((if af v0.1.2=0 then aa v0.1.2 else (0:Int)) - if af x.2.2=0 then aa x.2.2 else (0:Int))=v1.1/\0=v1.2/\True)))))) (bS (aR x.1).1 x.2.1 true)) (ix x.1 x.2.1 x.2.2)
theorem Ao:tP:=by
 unfold tP;intro ⟨a,at_,h⟩ _ _
 have hF:ix a at_ h=if af h≠0 then ([],af h) else if h.2.2.2=true then ([],3) else if (ak a).2.2≠0 then ([],(ak a).2.2)
  else if (bS (ac a).1 at_ true).2=false then ([],5) else if aa (bS (ac a).1 at_ true).1.2<aa h then ([],7)
  else (aT ((eC a at_ (aa (bS (ac a).1 at_ true).1.2) 0 (aa (bS (ac a).1 at_ true).1.2)).set at_.toNat (aB h)) (at_+aa h) (aa (bS (ac a).1 at_ true).1.2 - aa h),0):=rfl
 simp only;rw [zg];refine ⟨trivial,fun hc=>?_,fun hc=>⟨fun h2=>?_,fun h2=>⟨trivial,fun h3=>?_,fun h3=>?_⟩⟩⟩
 ·have hc:af h≠0:=by simpa using hc
  rw [hF,if_pos hc];exact ⟨rfl,rfl,trivial⟩
 ·have hc:af h=0:=by simpa using hc
  rw [hF,if_neg (by omega),if_pos h2];exact ⟨rfl,rfl,trivial⟩
 ·have hc:af h=0:=by simpa using hc
  have h3:(ak a).2.2≠0:=by simpa using h3
  rw [hF,if_neg (by omega),if_neg (by rw [h2]; simp),if_pos h3];exact ⟨rfl,rfl,trivial⟩
 have hc:af h=0:=by simpa using hc
 have h3:(ak a).2.2=0:=by simpa using h3
 obtain ⟨e1,hal,hsp⟩:=xx h3;have hfi:=uA (ac a).1 at_ true;rw [if_neg (by omega),if_neg (by rw [h2]; simp),if_neg (by omega)] at hF;rw [e1,hF];refine ⟨trivial,fun h4=>?_,fun h4=>⟨trivial,trivial,fun h5=>?_,fun h5=>?_⟩⟩
 ·have h4:(bS (ac a).1 at_ true).2=false:=by simpa using h4
  rw [if_pos h4];exact ⟨rfl,rfl,trivial⟩
 ·have h4:(bS (ac a).1 at_ true).2=true:=by simpa using h4
  obtain ⟨q1,q2,q3⟩:=hfi h4;have hh:=(hsp _ q1).2;rw [if_pos hh,if_pos hc] at h5;have hn4:¬ (bS (ac a).1 at_ true).2=false:=by rw [h4]; simp
  rw [if_neg hn4,if_pos (Nw h5)];exact ⟨rfl,rfl,trivial⟩
 ·have h4:(bS (ac a).1 at_ true).2=true:=by simpa using h4
  obtain ⟨q1,q2,q3⟩:=hfi h4;obtain ⟨hin,hh⟩:=hsp _ q1;rw [if_pos hh,if_pos hc] at h5;have h5:=Nx h5;have hn4:¬ (bS (ac a).1 at_ true).2=false:=by rw [h4]; simp
  rw [if_neg hn4,if_neg h5];have hz:=aW hc;have hn:aa h=1+h.1+h.2.1:=rfl;have hL:aa (bS (ac a).1 at_ true).1.2=1+(bS (ac a).1 at_ true).1.2.1+(bS (ac a).1 at_ true).1.2.2.1:=rfl;unfold dd at hin;rw [if_pos hh,if_pos hc,if_pos hc];rw [q2] at hin;generalize aa (bS (ac a).1 at_ true).1.2=L at *;have hp:ie a at_ L:=⟨by omega,by omega,by omega,hal⟩;have hl:=fK a at_ L 0 L (by omega) (by omega) (by omega) (by omega);rw [uB hp];simp only [am];exact ⟨trivial,trivial,by omega,by omega,by omega,trivial,by omega,trivial,trivial,by omega,⟨by omega,by omega,by rw [O7]; omega,by rw [O7]; omega⟩,trivial,trivial,trivial⟩
theorem Es:DX.ok Tryz.prog 157:=aF (ann:=cr) (ae iE (ae mh (ae Eu (ae tZ (ae mg (ae Lb ap)))))) Tryz.func157 (by kernel_rfl) Ao
end
section
end
section
theorem H8 (out:List cR) (k a b:Int):lN (out++[(k,a)]) b=out++[(k,a+b)]:=by
 unfold lN;simp
def iR (at_:Int):Int->List aw->Int
 | r,[]=>r
 | r,s::l=>iR at_ (if s.1=at_/\s.2.2.2.2=true then aa s.2 else r) l
theorem tx (at_:Int):∀ (l:List aw) (r:Int),(∀ s∈l,s.1≠at_)->iR at_ r l=r
 | [],_,_=>rfl
 | s::l,r,h=>by
  simp only [iR];rw [if_neg (fun e=>h s (by simp) e.1)];exact tx at_ l r (fun t ht=>h t (by simp [ht]))
theorem Bo (at_:Int):∀ (l:List aw) (r:Int),(∀ s∈l,¬ (s.1=at_/\s.2.2.2.2=true))->iR at_ r l=r
 | [],_,_=>rfl
 | s::l,r,h=>by
  simp only [iR];rw [if_neg (h s (by simp))];exact Bo at_ l r (fun t ht=>h t (by simp [ht]))
theorem tv {at_:Int}:∀ (l:List aw) (r:Int) (s:aw),l.Pairwise (fun s t=>s.1<t.1)->s∈l->s.1=at_->s.2.2.2.2=true->iR at_ r l=aa s.2
 | t::l,r,s,hs,hm,h1,h2=>by
  obtain ⟨p1,p2⟩:=Oc.1 hs;simp only [iR];rcases NG.1 hm with rfl | hm
  ·rw [if_pos ⟨h1,h2⟩];exact tx at_ l _ (fun u hu e=>by have:=p1 u hu; omega)
  ·exact tv l _ s p2 hm h1 h2
theorem Cu {l:List aw} {at_:Int} {fr:Bool} (h:(bS l at_ fr).2=false):∀ s∈l,¬ (s.1=at_/\s.2.2.2.2=fr):=by
 intro s hs ⟨h1,h2⟩;have ha:=dX (fun s:aw=>decide (s.1=at_)&&s.2.2.2.2 == fr) l 0 (by omega);have:(l.any fun s:aw=>decide (s.1=at_)&&s.2.2.2.2 == fr)=true:=OK.2 ⟨s,hs,by simp [h1,h2]⟩;rw [this] at ha;have ha:=Nw ha;unfold bS at h;rw [if_neg (by omega)] at h;cases h
theorem zf {l:List aw} (hs:l.Pairwise (fun s t=>s.1<t.1)) (at_:Int):(bU at_ l).2=(bS l at_ false).2/\((bS l at_ false).2=true->(bU at_ l).1=(bS l at_ false).1.2):=by
 cases h:(bS l at_ false).2
 ·rcases gl at_ l with e | ⟨s,h1,h2,h3,_⟩
  ·rw [e]; exact ⟨rfl,fun h=>by cases h⟩
  ·exact absurd ⟨h2,h3⟩ (Cu h s h1)
 ·obtain ⟨q1,q2,q3⟩:=uA l at_ false h;have:=nO hs q1 q3;rw [q2] at this;rw [this];exact ⟨rfl,fun _=>rfl⟩
theorem HV {b:List Int} {at_ n v k:Int} {i:Nat} (x:Int) (h:i<at_.toNat) (hl:at_.toNat<=b.length):eC (b.set i x) at_ n v k=(eC b at_ n v k).set i x:=by
 unfold eC lJ;rw [List.take_set,List.drop_set,if_pos (by omega),List.set_append,if_pos (by rw [NN]; omega)]
theorem pG {b:List Int} {at_ n:Int} {i:Nat} (x:Int) (h:i<at_.toNat) (hl:at_.toNat<=b.length):aT (b.set i x) at_ n=(aT b at_ n).set i x:=by
 unfold aT;split
 ·rw [HV x h hl,List.set_comm _ _ (by omega)]
 ·rfl
theorem HW {b:List Int} {at_ n:Int} {i:Nat} (h:at_.toNat<=i) (h2:i<at_.toNat+n.toNat) (hl:at_.toNat+n.toNat<=b.length):(eC b at_ n 0 n).getD i 0=0:=by
 unfold eC lJ;have e:(List.take at_.toNat b).length=at_.toNat:=by rw [NN]; omega
 rw [List.getD_eq_getElem?_getD,List.getElem?_append_right (by omega),e,List.getElem?_append_left (by simp; omega)];rw [NP (by simp),List.getElem?_replicate];split <;> rfl
theorem zG {b:List Int} {at_ n:Int} {i:Nat} (h:i<at_.toNat) (hl:at_.toNat<=b.length):(aT b at_ n).getD i 0=b.getD i 0:=by
 unfold aT;split
 ·unfold eC lJ;rw [List.getD_eq_getElem?_getD,List.getElem?_set_ne (by omega),List.getElem?_append_left (by rw [NN]; omega),List.getElem?_take,if_pos h];rfl
 ·rfl
theorem DB {a:List Int} {at_ L n:Int} (hp:ie a at_ L) (h1:1<=n) (h2:n<=L) (hw:Int) :
  (aT (aT a at_ L) (at_+n) (L - n)).set at_.toNat hw=aT ((eC a at_ L 0 L).set at_.toNat hw) (at_+n) (L - n) /\
  ∀ j,1<=j->j<n->((aT (aT a at_ L) (at_+n) (L - n)).set at_.toNat hw).getD (at_+j).toNat 0=0:=by
 obtain ⟨p1,p2,p3,p4⟩:=hp;have hl:=fK a at_ L 0 L p1 p3 p2 (by omega);have hE:aT a at_ L=(eC a at_ L 0 L).set at_.toNat (aB (0,L - 1,0,true)):=by unfold aT; rw [if_pos (by omega)]
 rw [hE,pG _ (by omega) (by omega),pG _ (by omega) (by omega),List.set_set];refine ⟨rfl,fun j h3 h4=>?_⟩;rw [List.getD_eq_getElem?_getD,List.getElem?_set_ne (by omega),<- List.getD_eq_getElem?_getD,zG (by omega) (by omega)];exact HW (by omega) (by omega) (by omega)
def sr (h:dI):Int:=if af h=0/\h.2.2.2=true then 3 else af h
def fF (e r n:Int):Int:=if e≠0 then e else if r=0 then 5 else if r<n then 7 else 0
theorem DC {a:List Int} (hz:(ak a).2.2=0) (at_:Int) (h:dI) :
  ix a at_ h=(if fF (sr h) (iR at_ 0 (ac a).1) (aa h)≠0 then [] else aT ((eC a at_ (iR at_ 0 (ac a).1) 0 (iR at_ 0 (ac a).1)).set at_.toNat (aB h)) (at_+aa h) (iR at_ 0 (ac a).1 - aa h),fF (sr h) (iR at_ 0 (ac a).1) (aa h)) /\
  (fF (sr h) (iR at_ 0 (ac a).1) (aa h)=0->ie a at_ (iR at_ 0 (ac a).1)/\1<=aa h/\aa h<=iR at_ 0 (ac a).1/\af h=0):=by
 obtain ⟨_,hal,hsp⟩:=xx hz
 have hF:ix a at_ h=if af h≠0 then ([],af h) else if h.2.2.2=true then ([],3) else if (ak a).2.2≠0 then ([],(ak a).2.2)
  else if (bS (ac a).1 at_ true).2=false then ([],5) else if aa (bS (ac a).1 at_ true).1.2<aa h then ([],7)
  else (aT ((eC a at_ (aa (bS (ac a).1 at_ true).1.2) 0 (aa (bS (ac a).1 at_ true).1.2)).set at_.toNat (aB h)) (at_+aa h) (aa (bS (ac a).1 at_ true).1.2 - aa h),0):=rfl
 rw [hF];by_cases h1:af h=0
 ·rw [if_neg (by omega)];have hz1:=aW h1;have hn:aa h=1+h.1+h.2.1:=rfl;cases h2:h.2.2.2
  ·have e0:sr h=0:=by unfold sr; rw [h2,if_neg (by simp),h1]
   rw [e0,if_neg (by simp),if_neg (by omega)];cases h3:(bS (ac a).1 at_ true).2
   ·rw [Bo at_ _ 0 (Cu h3),if_pos rfl];have e1:fF 0 0 (aa h)=5:=rfl;rw [e1,if_pos (by omega)];exact ⟨rfl,fun h=>by omega⟩
   ·obtain ⟨q1,q2,q3⟩:=uA (ac a).1 at_ true h3;rw [tv _ 0 _ (bV a) q1 q2 q3,if_neg (by simp)];obtain ⟨hin,hh⟩:=hsp _ q1;have hz2:=aW hh;have hL:aa (bS (ac a).1 at_ true).1.2=1+(bS (ac a).1 at_ true).1.2.1+(bS (ac a).1 at_ true).1.2.2.1:=rfl;unfold dd at hin;rw [q2] at hin;generalize aa (bS (ac a).1 at_ true).1.2=L at *;by_cases h4:L<aa h
    ·have e1:fF 0 L (aa h)=7:=by unfold fF; rw [if_neg (by omega),if_neg (by omega),if_pos h4]
     rw [e1,if_pos h4,if_pos (by omega)];exact ⟨rfl,fun h=>by omega⟩
    ·have e1:fF 0 L (aa h)=0:=by unfold fF; rw [if_neg (by omega),if_neg (by omega),if_neg h4]
     rw [e1,if_neg h4,if_neg (by omega)];exact ⟨rfl,fun _=>⟨⟨by omega,by omega,by omega,hal⟩,by omega,by omega,h1⟩⟩
  ·have e0:sr h=3:=by unfold sr; rw [h2,if_pos ⟨h1,rfl⟩]
   rw [e0,if_pos rfl];have e1:∀ r,fF 3 r (aa h)=3:=fun _=>rfl
   rw [e1,if_pos (by omega)];exact ⟨rfl,fun h=>by omega⟩
 ·have e0:sr h=af h:=by unfold sr; rw [if_neg (fun e=>h1 e.1)]
  have e1:∀ r,fF (af h) r (aa h)=af h:=fun _=>by unfold fF; rw [if_pos h1]
  rw [e0,if_pos h1,e1,if_pos h1];exact ⟨rfl,fun h=>absurd h h1⟩
end
section
def df (l:List aw) (at_:Int):Int:=aa (bU at_ l).1
def aS (a keep pinned:List Int):List Int×Int :=
 if (ak a).2.2≠0 then ([],(ak a).2.2) else if (bb keep&&bb pinned)=false then ([],3)
 else if (keep.all (isB (ac a).1))=false then ([],5) else if (pinned.all (fx keep))=false then ([],5) else (keep.map (df (ac a).1),0)
theorem JM {l:List aw} (hs:l.Pairwise (fun s t=>s.1<t.1)) (at_:Int) :
  (ag (fun s:aw=>decide (s.1=at_)&&!s.2.2.2.2) 0 l<0->isB l at_=false) /\
  (¬ ag (fun s:aw=>decide (s.1=at_)&&!s.2.2.2.2) 0 l<0->isB l at_=true/\ag (fun s:aw=>decide (s.1=at_)&&!s.2.2.2.2) 0 l<(l.length:Int) /\
   (l.getD (ag (fun s:aw=>decide (s.1=at_)&&!s.2.2.2.2) 0 l).toNat (0,0,0,0,false)).2=(bU at_ l).1/\l.getD (ag (fun s:aw=>decide (s.1=at_)&&!s.2.2.2.2) 0 l).toNat (0,0,0,0,false)∈l):=by
 have hf:(fun s:aw=>decide (s.1=at_)&&!s.2.2.2.2)=(fun s:aw=>decide (s.1=at_)&&s.2.2.2.2 == false):=by
  funext s;cases s.2.2.2.2 <;> rfl
 obtain ⟨k1,k2⟩:=zf hs at_;have hlt:=dV (fun s:aw=>decide (s.1=at_)&&s.2.2.2.2 == false) (0,0,0,0,false) l 0 (by omega);rw [hf];unfold isB;refine ⟨fun h=>?_,fun h=>?_⟩
 ·rw [k1];unfold bS;rw [if_pos h]
 ·have e:bS l at_ false=(l.getD (ag (fun s:aw=>decide (s.1=at_)&&s.2.2.2.2 == false) 0 l).toNat (0,0,0,0,false),true):=by
   unfold bS;rw [if_neg h]
  have k3:=k2 (by rw [e]);rw [k1,k3,e];exact ⟨rfl,by omega,rfl,aH _ (by omega) (by omega)⟩
def GV:Spec:={ Ts:=[cE,.ref ty_I],Rs:=[.dat .bool],pre:=fun _=>True,F:=fun ((s,at_):aw×Int)=>decide (s.1=at_)&&!s.2.2.2.2 }
def wY:Prop :=
  ∀ (x:(Int×Int×Int×Int×Bool)×Int),(am .i64 x.1.1/\am .i64 x.1.2.1/\am .i64 x.1.2.2.1/\am .i64 x.1.2.2.2.1/\True)/\am .i64 x.2->True->(decide (x.1.1=x.2)&&!x.1.2.2.2.2)=(decide (x.1.1=x.2)&&!x.1.2.2.2.2)/\True
theorem Dr:wY:=by
 unfold wY;intro ⟨s,at_⟩ _ _;simp
theorem Hr:GV.ok Tryz.prog 289:=aF (ann:=cr) ap Tryz.func289 (by kernel_rfl) Dr
def DT:Spec:={ Ts:=[ty_I,.ref (.arr ty_I)],Rs:=[.dat .bool],pre:=fun _=>True,F:=fun ((at_,keep):Int×List Int)=>!fx keep at_ }
def tL:Prop :=
  ∀ (x:Int×List Int),(am .i64 x.1/\x.2.length * 8<=aL/\∀ (x_1:Int),x_1∈x.2->am .i64 x_1)->True->True/\(!fx x.2 x.1)=!fx x.2 x.1/\True
theorem Ak:tL:=by
 unfold tL;intro _ _ _;exact ⟨trivial,rfl,trivial⟩
theorem Eo:DT.ok Tryz.prog 290:=aF (ann:=cr) (ae yX ap) Tryz.func290 (by kernel_rfl) Ak
def Ku:Nat->Option LoopGen
 | 9=>some { rd:=[.own 9 202 cE,.dat 35 (.arr ty_I)],A:=fun ((l,keep):List aw×List Int)=>{ cs:=[.own 11 3 ty_I,.dat 37 ty_I],inv:=fun ((out,i):List Int×Int)=>0<=i/\i<=keep.length/\(keep.drop i.toNat).all (isB l)=keep.all (isB l)/\out=(keep.take i.toNat).map (df l),mu:=fun ((_,i):List Int×Int)=>(keep.length - i).toNat } }
 | _=>none
def IV:Spec:={ Ts:=[.arr bJ,.arr ty_I,.arr ty_I],Rs:=[.own 3 ty_I,.dat ty_I],pre:=fun _=>True,F:=fun ((a,keep,pinned):List Int×List Int×List Int)=>aS a keep pinned }
def BI:Prop :=
  ∀ (x:List Int×List Int×List Int),((x.1.length * 8<=aL/\∀ (x_1:Int),x_1∈x.1->am .u64 x_1)/\(x.2.1.length * 8<=aL/\∀ (x_1:Int),x_1∈x.2.1->am .i64 x_1)/\x.2.2.length * 8<=aL/\∀ (x_1:Int),x_1∈x.2.2->am .i64 x_1)->True->True/\(decide ((ak x.1).2.2≠0)=true->([]:List Int)=(aS x.1 x.2.1 x.2.2).1/\(ak x.1).2.2=(aS x.1 x.2.1 x.2.2).2/\True)/\(decide ((ak x.1).2.2≠0)=false->True/\((!bb x.2.1)=false->True)/\((!bb x.2.1||!bb x.2.2)=true->([]:List Int)=(aS x.1 x.2.1 x.2.2).1/\3=(aS x.1 x.2.1 x.2.2).2/\True)/\((!bb x.2.1||!bb x.2.2)=false->True/\((0:Int)<=0/\0<=(x.2.1.length:Int)/\(List.drop (Int.toNat 0) x.2.1).all (isB (ac x.1).1)=x.2.1.all (isB (ac x.1).1)/\([]:List Int)=List.map (df (ac x.1).1) (List.take (Int.toNat 0) x.2.1))/\∀ (x_1:List Int×Int),0<=x_1.2/\x_1.2<=(x.2.1.length:Int)/\(List.drop x_1.2.toNat x.2.1).all (isB (ac x.1).1)=x.2.1.all (isB (ac x.1).1)/\x_1.1=List.map (df (ac x.1).1) (List.take x_1.2.toNat x.2.1)->(decide (x_1.2<(x.2.1.length:Int))=true->0<=x_1.2/\x_1.2<(x.2.1.length:Int)/\(∀ (s:aw),s∈(ac x.1).1->(fun (_:Int×Int×Int×Int×Bool)=>True,fun (x_2:Int×Int×Int×Int×Bool)=>decide (x_2.1=x.2.1.getD x_1.2.toNat 0)&&!x_2.2.2.2.2).1 s)/\(decide (ag (fun (x_2:Int×Int×Int×Int×Bool)=>decide (x_2.1=x.2.1.getD x_1.2.toNat 0)&&!x_2.2.2.2.2) 0 (ac x.1).1<0)=true->([]:List Int)=(aS x.1 x.2.1 x.2.2).1/\5=(aS x.1 x.2.1 x.2.2).2/\True)/\(decide (ag (fun (x_2:Int×Int×Int×Int×Bool)=>decide (x_2.1=x.2.1.getD x_1.2.toNat 0)&&!x_2.2.2.2.2) 0 (ac x.1).1<0)=false->0<=ag (fun (x_2:Int×Int×Int×Int×Bool)=>decide (x_2.1=x.2.1.getD x_1.2.toNat 0)&&!x_2.2.2.2.2) 0 (ac x.1).1/\ag (fun (x_2:Int×Int×Int×Int×Bool)=>decide (x_2.1=x.2.1.getD x_1.2.toNat 0)&&!x_2.2.2.2.2) 0 (ac x.1).1<(↑(ac x.1).1.length:Int)/\(ag (fun (x_2:Int×Int×Int×Int×Bool)=>decide (x_2.1=x.2.1.getD x_1.2.toNat 0)&&!x_2.2.2.2.2) 0 (ac x.1).1).toNat<(ac x.1).1.length/\True/\(x_1.1.length+[if af ((ac x.1).1.getD (ag (fun (x_2:Int×Int×Int×Int×Bool)=>decide (x_2.1=x.2.1.getD x_1.2.toNat 0)&&!x_2.2.2.2.2) 0 (ac x.1).1).toNat (0,0,0,0,false)).2=0 then aa ((ac x.1).1.getD (ag (fun (x_2:Int×Int×Int×Int×Bool)=>decide (x_2.1=x.2.1.getD x_1.2.toNat 0)&&!x_2.2.2.2.2) 0 (ac x.1).1).toNat (0,0,0,0,false)).2 else (0:Int)].length) * 8<=aL/\am .i64 (x_1.2+1)/\(0<=x_1.2+1/\x_1.2+1<=(x.2.1.length:Int)/\(List.drop (x_1.2+1).toNat x.2.1).all (isB (ac x.1).1)=x.2.1.all (isB (ac x.1).1)/\x_1.1++[if af ((ac x.1).1.getD (ag (fun (x_2:Int×Int×Int×Int×Bool)=>decide (x_2.1=x.2.1.getD x_1.2.toNat 0)&&!x_2.2.2.2.2) 0 (ac x.1).1).toNat (0,0,0,0,false)).2=0 then aa ((ac x.1).1.getD (ag (fun (x_2:Int×Int×Int×Int×Bool)=>decide (x_2.1=x.2.1.getD x_1.2.toNat 0)&&!x_2.2.2.2.2) 0 (ac x.1).1).toNat (0,0,0,0,false)).2 else (0:Int)]=List.map (df (ac x.1).1) (List.take (x_1.2+1).toNat x.2.1))/\((x.2.1.length:Int) - (x_1.2+1)).toNat<((x.2.1.length:Int) - x_1.2).toNat))/\(decide (x_1.2<(x.2.1.length:Int))=false->(∀ (s:Int),s∈x.2.2->(fun (_:Int)=>True,fun (x_2:Int)=>!fx x.2.1 x_2).1 s)/\((x.2.2.any fun (x_2:Int)=>!fx x.2.1 x_2)=true->([]:List Int)=(aS x.1 x.2.1 x.2.2).1/\5=(aS x.1 x.2.1 x.2.2).2/\True)/\((x.2.2.any fun (x_2:Int)=>!fx x.2.1 x_2)=false->x_1.1=(aS x.1 x.2.1 x.2.2).1/\0=(aS x.1 x.2.1 x.2.2).2/\True))))
theorem Gr:BI:=by
 unfold BI;intro ⟨a,keep,pinned⟩ ⟨_,⟨hb,_⟩,_⟩ _;unfold aL at hb;simp only at hb |-
 have hF:aS a keep pinned=if (ak a).2.2≠0 then ([],(ak a).2.2) else if (bb keep&&bb pinned)=false then ([],3)
  else if (keep.all (isB (ac a).1))=false then ([],5) else if (pinned.all (fx keep))=false then ([],5) else (keep.map (df (ac a).1),0):=rfl
 rw [hF];refine ⟨trivial,fun hc=>?_,fun hc=>⟨trivial,fun _=>trivial,fun hr=>?_,fun hr=>⟨trivial,⟨by omega,by omega,rfl,rfl⟩,fun ⟨out,i⟩ ⟨h0,h1,h2,h3⟩=>⟨fun hlt=>?_,fun hge=>?_⟩⟩⟩⟩
 ·rw [if_pos (Nw hc)];exact ⟨rfl,rfl,trivial⟩
 ·rw [if_neg (Nx hc),if_pos (by revert hr; cases bb keep <;> cases bb pinned <;> simp)];exact ⟨rfl,rfl,trivial⟩
 ·have hlt:i<(keep.length:Int):=Nw hlt;simp only at h0 h1 h2 h3 |-;rw [if_neg (Nx hc),if_neg (by revert hr; cases bb keep <;> cases bb pinned <;> simp)];rw [bz (0:Int) h0 hlt,OB] at h2;have hts:=bx (0:Int) h0 hlt;obtain ⟨f1,f2⟩:=JM (bV a) (keep.getD i.toNat 0);rw [hts];generalize keep.getD i.toNat 0=at_ at *;refine ⟨h0,hlt,fun _ _=>trivial,fun hn=>?_,fun hn=>?_⟩
  ·rw [f1 (Nw hn),Py] at h2;rw [if_pos h2.symm];exact ⟨rfl,rfl,trivial⟩
  ·obtain ⟨g1,g2,g3,g4⟩:=f2 (Nx hn);have hn:¬ ag (fun s:aw=>decide (s.1=at_)&&!s.2.2.2.2) 0 (ac a).1<0:=Nx hn;rw [g1,OU] at h2;have hh:=(eJ a _ g4).2.2;rw [g3] at hh |-;rw [if_pos hh];have hl:out.length=i.toNat:=by rw [h3,Oh,NN]; omega
   unfold aL;simp only [am,NC,N8];refine ⟨Int.not_lt.1 hn,g2,(Int.toNat_lt (Int.not_lt.1 hn)).2 g2,trivial,by omega,by omega,⟨by omega,by omega,h2,?_⟩,by omega⟩;rw [Ot,<- h3];rfl
 ·have hge:¬ i<(keep.length:Int):=Nx hge;simp only at h2 h3 |-;rw [cq hge,P8] at h2;rw [cn hge] at h3;rw [if_neg (Nx hc),if_neg (by revert hr; cases bb keep <;> cases bb pinned <;> simp),if_neg (by rw [<- h2]; simp)];have e:(pinned.any fun at_=>!fx keep at_)=!(pinned.all (fx keep)):=by rw [List.not_all_eq_any_not]
  refine ⟨fun _ _=>trivial,fun hp=>?_,fun hp=>?_⟩
  ·rw [e] at hp;rw [if_pos (by simpa using hp)];exact ⟨rfl,rfl,trivial⟩
  ·rw [e] at hp;rw [if_neg (by simpa using hp)];exact ⟨h3,rfl,trivial⟩
theorem BY:IV.ok Tryz.prog 270:=aF (ann:=Ku) (ae i6 (ae Jo (ae iZ (ae nH (ae Hr (ae gT (ae yZ (ae Eo ap)))))))) Tryz.func270 (by kernel_rfl) Gr
def bo (pinned keep long:List Int):Nat->Int
 | 0=>0
 | i+1=>(if fx pinned (keep.getD i 0)=true then keep.getD i 0 else bo pinned keep long i)+long.getD i 0
def fg (pinned keep long:List Int) (i:Nat):Int:=if fx pinned (keep.getD i 0)=true then keep.getD i 0 else bo pinned keep long i
def aA (keep long pinned:List Int):List Int:=(List.range keep.length).map (fg pinned keep long)
def iY (keep long:List Int):Prop:=long.length=keep.length/\keep.length<=256/\(∀ x∈keep,0<=x/\x<=255)/\∀ n∈long,1<=n/\n<=256
theorem cf {keep long:List Int} (pinned:List Int) (h:iY keep long):∀ i:Nat,i<=keep.length->0<=bo pinned keep long i/\bo pinned keep long i<=512 * i
 | 0,_=>by simp [bo]
 | i+1,hi=>by
  have ih:=cf pinned h i (by omega);obtain ⟨h1,h2,h3,h4⟩:=h;have k1:=h3 _ (aH (0:Int) (xs:=keep) (i:=i) (by omega) (by omega));have k2:=h4 _ (aH (0:Int) (xs:=long) (i:=i) (by omega) (by omega));simp only [Oo] at k1 k2;simp only [bo];split <;> omega
theorem pX {keep long:List Int} (pinned:List Int) (h:iY keep long) {i:Nat} (hi:i<keep.length):0<=fg pinned keep long i/\fg pinned keep long i<=512 * i+255:=by
 have h0:=cf pinned h i (by omega);have k1:=h.2.2.1 _ (aH (0:Int) (xs:=keep) (i:=i) (by omega) (by omega));simp only [Oo] at k1;unfold fg;split <;> omega
def LK:Nat->Option LoopGen
 | 4=>some { rd:=[.dat 11 (.arr ty_I),.dat 1 (.arr ty_I),.dat 2 (.arr ty_I)],A:=fun ((keep,long,pinned):List Int×List Int×List Int)=>{ cs:=[.own 7 3 ty_I,.dat 8 ty_I,.dat 13 ty_I],inv:=fun ((out,e,i):List Int×Int×Int)=>0<=i/\i<=keep.length/\out=(List.range i.toNat).map (fg pinned keep long)/\e=bo pinned keep long i.toNat,mu:=fun ((_,_,i):List Int×Int×Int)=>(keep.length - i).toNat } }
 | _=>none
def KO:Spec:={ Ts:=[.arr ty_I,.arr ty_I,.arr ty_I],Rs:=[.own 3 ty_I],pre:=fun ((keep,long,_):List Int×List Int×List Int)=>iY keep long,F:=fun ((keep,long,pinned):List Int×List Int×List Int)=>aA keep long pinned }
def Fs:Prop :=
  ∀ (x:List Int×List Int×List Int),((x.1.length * 8<=aL/\∀ (x_1:Int),x_1∈x.1->am .i64 x_1)/\(x.2.1.length * 8<=aL/\∀ (x_1:Int),x_1∈x.2.1->am .i64 x_1)/\x.2.2.length * 8<=aL/\∀ (x_1:Int),x_1∈x.2.2->am .i64 x_1)->iY x.1 x.2.1->((0:Int)<=0/\0<=(x.1.length:Int)/\([]:List Int)=List.map (fg x.2.2 x.1 x.2.1) (List.range (Int.toNat 0))/\0=bo x.2.2 x.1 x.2.1 (Int.toNat 0))/\∀ (x_1:List Int×Int×Int),0<=x_1.2.2/\x_1.2.2<=(x.1.length:Int)/\x_1.1=List.map (fg x.2.2 x.1 x.2.1) (List.range x_1.2.2.toNat)/\x_1.2.1=bo x.2.2 x.1 x.2.1 x_1.2.2.toNat->(decide (x_1.2.2<(x.1.length:Int))=true->0<=x_1.2.2/\x_1.2.2<(x.1.length:Int)/\True/\((!fx x.2.2 (x.1.getD x_1.2.2.toNat 0))=true->(x_1.1.length+[x_1.2.1].length) * 8<=aL/\0<=x_1.2.2/\x_1.2.2<(x.2.1.length:Int)/\am .i64 (x_1.2.1+x.2.1.getD x_1.2.2.toNat 0)/\am .i64 (x_1.2.2+1)/\(0<=x_1.2.2+1/\x_1.2.2+1<=(x.1.length:Int)/\x_1.1++[x_1.2.1]=List.map (fg x.2.2 x.1 x.2.1) (List.range (x_1.2.2+1).toNat)/\x_1.2.1+x.2.1.getD x_1.2.2.toNat 0=bo x.2.2 x.1 x.2.1 (x_1.2.2+1).toNat)/\((x.1.length:Int) - (x_1.2.2+1)).toNat<((x.1.length:Int) - x_1.2.2).toNat)/\((!fx x.2.2 (x.1.getD x_1.2.2.toNat 0))=false->(x_1.1.length+[x.1.getD x_1.2.2.toNat 0].length) * 8<=aL/\0<=x_1.2.2/\x_1.2.2<(x.2.1.length:Int)/\am .i64 (x.1.getD x_1.2.2.toNat 0+x.2.1.getD x_1.2.2.toNat 0)/\am .i64 (x_1.2.2+1)/\(0<=x_1.2.2+1/\x_1.2.2+1<=(x.1.length:Int)/\x_1.1++[x.1.getD x_1.2.2.toNat 0]=List.map (fg x.2.2 x.1 x.2.1) (List.range (x_1.2.2+1).toNat)/\x.1.getD x_1.2.2.toNat 0+x.2.1.getD x_1.2.2.toNat 0=bo x.2.2 x.1 x.2.1 (x_1.2.2+1).toNat)/\((x.1.length:Int) - (x_1.2.2+1)).toNat<((x.1.length:Int) - x_1.2.2).toNat))/\(decide (x_1.2.2<(x.1.length:Int))=false->x_1.1=aA x.1 x.2.1 x.2.2/\True)
theorem Im:Fs:=by
 unfold Fs;intro ⟨keep,long,pinned⟩ _ hp;have hp':=hp;obtain ⟨p1,p2,p3,p4⟩:=hp';simp only at p1 p2 p3 p4 hp |-;refine ⟨⟨by omega,by omega,rfl,rfl⟩,fun ⟨out,e,i⟩ ⟨h0,h1,h2,h3⟩=>⟨fun hlt=>?_,fun hge=>?_⟩⟩
 ·have hlt':i<(keep.length:Int):=Nw hlt;simp only at h0 h1 h2 h3 |-;have ht:=pX pinned hp (i:=i.toNat) (by omega);have he:=cf pinned hp (i.toNat+1) (by omega);have k1:=p3 _ (aH (0:Int) h0 hlt');have k2:=p4 _ (aH (0:Int) (xs:=long) h0 (by omega))
  have hs:out++[fg pinned keep long i.toNat]=(List.range (i+1).toNat).map (fg pinned keep long):=by
   rw [show (i+1).toNat=i.toNat+1 by omega,List.range_succ,Ot,<- h2];rfl
  have hE:bo pinned keep long (i+1).toNat=fg pinned keep long i.toNat+long.getD i.toNat 0:=by
   rw [show (i+1).toNat=i.toNat+1 by omega];rfl
  have hl:out.length=i.toNat:=by rw [h2]; simp
  rw [hE,<- hs];subst h3;unfold aL;simp only [am,NC,N8];have hT:fg pinned keep long i.toNat=if fx pinned (keep.getD i.toNat 0)=true then keep.getD i.toNat 0 else bo pinned keep long i.toNat:=rfl
  have hE':bo pinned keep long (i.toNat+1)=fg pinned keep long i.toNat+long.getD i.toNat 0:=rfl;rw [hE'] at he;refine ⟨h0,hlt',trivial,fun hc=>?_,fun hc=>?_⟩
  ·have hc:fx pinned (keep.getD i.toNat 0)=false:=by simpa using hc
   rw [if_neg (by rw [hc]; simp)] at hT;rw [hT] at he |-;exact ⟨by omega,h0,by omega,by omega,by omega,⟨by omega,by omega,rfl,rfl⟩,by omega⟩
  ·have hc:fx pinned (keep.getD i.toNat 0)=true:=by simpa using hc
   rw [if_pos hc] at hT;rw [hT] at he |-;exact ⟨by omega,h0,by omega,by omega,by omega,⟨by omega,by omega,rfl,rfl⟩,by omega⟩
 ·have hge:¬ i<(keep.length:Int):=Nx hge;simp only at h0 h1 h2;rw [h2,show i.toNat=keep.length by omega];exact ⟨rfl,trivial⟩
theorem FK:KO.ok Tryz.prog 271:=aF (ann:=LK) (ae yX ap) Tryz.func271 (by kernel_rfl) Im
def GU:Spec:={ Ts:=[.arr bJ,.arr ty_I,.arr ty_I],Rs:=[.own 3 ty_I,.dat ty_I],pre:=fun _=>True,F:=fun ((a,keep,pinned):List Int×List Int×List Int)=>((if (aS a keep pinned).2≠0 then [] else aA keep (aS a keep pinned).1 pinned,(aS a keep pinned).2):List Int×Int) }
theorem gg:∀ {l:List Int},bb l=true->l.Pairwise (·<·)
 | [],_=>List.Pairwise.nil
 | [x],_=>by simp
 | x::y::l,h=>by
  simp only [bb,NA,N5] at h;have ih:=gg h.2;refine Oc.2 ⟨fun z hz=>?_,ih⟩;rcases NG.1 hz with rfl | hz
  ·exact h.1
  ·have:=(Oc.1 ih).1 z hz;omega
theorem iM:∀ {l:List Int} {s:Int},l.Pairwise (·<·)->(∀ x∈l,s<=x/\x<=255)->s<=256->(l.length:Int)<=256 - s
 | [],s,_,_,h=>by simp; omega
 | x::l,s,hp,hr,_=>by
  obtain ⟨h1,h2⟩:=Oc.1 hp;have h3:=hr x (by simp);have ih:=iM (s:=x+1) h2 (fun y hy=>by have:=h1 y hy; have:=hr y (by simp [hy]); omega) (by omega);simp only [NC];omega
theorem uq {a:List Int} {at_:Int} (h:isB (ac a).1 at_=true):∃ s∈(ac a).1,s.1=at_/\s.2.2.2.2=false/\df (ac a).1 at_=aa s.2:=by
 unfold isB df at *;rcases gl at_ (ac a).1 with e | ⟨s,h1,h2,h3,e⟩
 ·rw [e] at h; cases h
 ·exact ⟨s,h1,h2,h3,by rw [e]⟩
theorem ue {a keep pinned:List Int} (h:(aS a keep pinned).2=0):(ak a).2.2=0/\bb keep=true/\bb pinned=true/\(∀ x∈keep,isB (ac a).1 x=true)/\(∀ x∈pinned,fx keep x=true)/\(aS a keep pinned).1=keep.map (df (ac a).1):=by
 unfold aS at *;by_cases h1:(ak a).2.2≠0
 ·rw [if_pos h1] at h; exact absurd h h1
 rw [if_neg h1] at h |-;by_cases h2:(bb keep&&bb pinned)=false
 ·rw [if_pos h2] at h; simp at h
 rw [if_neg h2] at h |-;by_cases h3:(keep.all (isB (ac a).1))=false
 ·rw [if_pos h3] at h; simp at h
 rw [if_neg h3] at h |-;by_cases h4:(pinned.all (fx keep))=false
 ·rw [if_pos h4] at h; simp at h
 rw [if_neg h4];have h2:bb keep=true/\bb pinned=true:=by simpa using h2
 have h3:keep.all (isB (ac a).1)=true:=by simpa using h3
 have h4:pinned.all (fx keep)=true:=by simpa using h4
 exact ⟨by omega,h2.1,h2.2,fun x hx=>NH.1 h3 x hx,fun x hx=>NH.1 h4 x hx,rfl⟩
theorem qo {a keep pinned:List Int} (h:(aS a keep pinned).2=0):iY keep (aS a keep pinned).1:=by
 obtain ⟨_,h2,_,h4,_,h6⟩:=ue h
 have hr:∀ x∈keep,0<=x/\x<=255:=fun x hx=>by
  obtain ⟨s,h1,h2,_⟩:=uq (h4 x hx);have:=cJ s h1;omega
 have hl:=iM (gg h2) hr (by omega);refine ⟨by rw [h6]; simp,by omega,hr,fun n hn=>?_⟩;rw [h6] at hn;obtain ⟨x,hx,rfl⟩:=NZ.1 hn;obtain ⟨s,h1,_,_,e⟩:=uq (h4 x hx);have hz:=aW (eJ a s h1).2.2;rw [e];unfold aa;omega
def wX:Prop :=
  ∀ (x:List Int×List Int×List Int),(fun (v0:type_of% (aS x.1 x.2.1 x.2.2))=>((x.1.length * 8<=aL/\∀ (x_1:Int),x_1∈x.1->am .u64 x_1)/\(x.2.1.length * 8<=aL/\∀ (x_1:Int),x_1∈x.2.1->am .i64 x_1)/\x.2.2.length * 8<=aL/\∀ (x_1:Int),x_1∈x.2.2->am .i64 x_1)->True->True/\(decide (v0.2≠0)=true->(([]:List Int)=if v0.2≠0 then ([]:List Int) else aA x.2.1 v0.1 x.2.2)/\v0.2=v0.2/\True)/\(decide (v0.2≠0)=false->iY x.2.1 v0.1/\(aA x.2.1 v0.1 x.2.2=if v0.2≠0 then ([]:List Int) else aA x.2.1 v0.1 x.2.2)/\0=v0.2/\True)) (aS x.1 x.2.1 x.2.2)
theorem Dq:wX:=by
 unfold wX;intro ⟨a,keep,pinned⟩ _ _;simp only;refine ⟨trivial,fun hc=>?_,fun hc=>?_⟩
 ·rw [if_pos (Nw hc)];exact ⟨rfl,trivial,trivial⟩
 ·have hz:(aS a keep pinned).2=0:=by simpa using Nx hc
  rw [if_neg (by omega)];exact ⟨qo hz,rfl,hz.symm,trivial⟩
theorem Hq:GU.ok Tryz.prog 254:=aF (ann:=cr) (ae BY (ae FK ap)) Tryz.func254 (by kernel_rfl) Dq
def gm (pinned keep long:List Int):Nat->List cR
 | 0=>[]
 | i+1=>gm pinned keep long i++(if bo pinned keep long i<fg pinned keep long i then [(bo pinned keep long i,fg pinned keep long i - bo pinned keep long i)] else [])
theorem ir (pinned keep long:List Int):∀ i,(gm pinned keep long i).length<=i
 | 0=>by simp [gm]
 | i+1=>by
  have:=ir pinned keep long i;simp only [gm,NE];split <;> simp <;> omega
def b8 (n:Int) (keep long pinned:List Int):List cR:=gm pinned keep long keep.length++(if bo pinned keep long keep.length<n then [(bo pinned keep long keep.length,n - bo pinned keep long keep.length)] else [])
def gz (a keep pinned:List Int):List cR×Int:=(if (aS a keep pinned).2≠0 then [] else b8 a.length keep (aS a keep pinned).1 pinned,(aS a keep pinned).2)
def CY:Nat->Option LoopGen
 | 3000272=>some d9
 | 8=>some { rd:=[.own 8 3 ty_I,.own 29 3 ty_I,.dat 1 (.arr ty_I),.dat 2 (.arr ty_I)],A:=fun ((long,to,keep,pinned):List Int×List Int×List Int×List Int)=>{ cs:=[.boxS 10 [.own 105 jp],.box 11 ty_I,.dat 31 ty_I],inv:=fun ((out,e,i):List cR×Int×Int)=>0<=i/\i<=keep.length/\to=aA keep long pinned/\out=gm pinned keep long i.toNat/\e=bo pinned keep long i.toNat,mu:=fun ((_,_,i):List cR×Int×Int)=>(keep.length - i).toNat } }
 | _=>none
def AO:Spec:={ Ts:=[.arr bJ,.arr ty_I,.arr ty_I],Rs:=[.own 105 jp,.dat ty_I],pre:=fun _=>True,F:=fun ((a,keep,pinned):List Int×List Int×List Int)=>gz a keep pinned }
def ri:Prop :=
  ∀ (x:List Int×List Int×List Int),(fun (v1:type_of% (gz x.1 x.2.1 x.2.2))=>(fun (v0:type_of% (aS x.1 x.2.1 x.2.2))=>((x.1.length * 8<=aL/\∀ (x_1:Int),x_1∈x.1->am .u64 x_1)/\(x.2.1.length * 8<=aL/\∀ (x_1:Int),x_1∈x.2.1->am .i64 x_1)/\x.2.2.length * 8<=aL/\∀ (x_1:Int),x_1∈x.2.2->am .i64 x_1)->True->True/\(decide (v0.2≠0)=true->([]:List (Int×Int))=v1.1/\v0.2=v1.2/\True)/\(decide (v0.2≠0)=false->iY x.2.1 v0.1/\((0:Int)<=0/\0<=(x.2.1.length:Int)/\aA x.2.1 v0.1 x.2.2=aA x.2.1 v0.1 x.2.2/\([]:List (Int×Int))=gm x.2.2 x.2.1 v0.1 (Int.toNat 0)/\0=bo x.2.2 x.2.1 v0.1 (Int.toNat 0))/\∀ (x_1:List (Int×Int)×Int×Int),0<=x_1.2.2/\x_1.2.2<=(x.2.1.length:Int)/\aA x.2.1 v0.1 x.2.2=aA x.2.1 v0.1 x.2.2/\x_1.1=gm x.2.2 x.2.1 v0.1 x_1.2.2.toNat/\x_1.2.1=bo x.2.2 x.2.1 v0.1 x_1.2.2.toNat->(decide (x_1.2.2<(↑(aA x.2.1 v0.1 x.2.2).length:Int))=true->0<=x_1.2.2/\x_1.2.2<(↑(aA x.2.1 v0.1 x.2.2).length:Int)/\x_1.2.2.toNat<(aA x.2.1 v0.1 x.2.2).length/\∀ (_:Array Value),(decide (x_1.2.1<(aA x.2.1 v0.1 x.2.2).getD x_1.2.2.toNat 0)=true->am .i64 ((aA x.2.1 v0.1 x.2.2).getD x_1.2.2.toNat 0 - x_1.2.1)/\(x_1.1.length+[(x_1.2.1,(aA x.2.1 v0.1 x.2.2).getD x_1.2.2.toNat 0 - x_1.2.1)].length) * (8+8)<=aL/\0<=x_1.2.2/\x_1.2.2<(v0.1.length:Int)/\x_1.2.2.toNat<v0.1.length/\am .i64 ((aA x.2.1 v0.1 x.2.2).getD x_1.2.2.toNat 0+v0.1.getD x_1.2.2.toNat 0)/\am .i64 (x_1.2.2+1)/\(0<=x_1.2.2+1/\x_1.2.2+1<=(x.2.1.length:Int)/\aA x.2.1 v0.1 x.2.2=aA x.2.1 v0.1 x.2.2/\x_1.1++[(x_1.2.1,(aA x.2.1 v0.1 x.2.2).getD x_1.2.2.toNat 0 - x_1.2.1)]=gm x.2.2 x.2.1 v0.1 (x_1.2.2+1).toNat/\(aA x.2.1 v0.1 x.2.2).getD x_1.2.2.toNat 0+v0.1.getD x_1.2.2.toNat 0=bo x.2.2 x.2.1 v0.1 (x_1.2.2+1).toNat)/\((x.2.1.length:Int) - (x_1.2.2+1)).toNat<((x.2.1.length:Int) - x_1.2.2).toNat)/\(decide (x_1.2.1<(aA x.2.1 v0.1 x.2.2).getD x_1.2.2.toNat 0)=false->0<=x_1.2.2/\x_1.2.2<(v0.1.length:Int)/\x_1.2.2.toNat<v0.1.length/\am .i64 ((aA x.2.1 v0.1 x.2.2).getD x_1.2.2.toNat 0+v0.1.getD x_1.2.2.toNat 0)/\am .i64 (x_1.2.2+1)/\(0<=x_1.2.2+1/\x_1.2.2+1<=(x.2.1.length:Int)/\aA x.2.1 v0.1 x.2.2=aA x.2.1 v0.1 x.2.2/\x_1.1=gm x.2.2 x.2.1 v0.1 (x_1.2.2+1).toNat/\(aA x.2.1 v0.1 x.2.2).getD x_1.2.2.toNat 0+v0.1.getD x_1.2.2.toNat 0=bo x.2.2 x.2.1 v0.1 (x_1.2.2+1).toNat)/\((x.2.1.length:Int) - (x_1.2.2+1)).toNat<((x.2.1.length:Int) - x_1.2.2).toNat))/\(decide (x_1.2.2<(↑(aA x.2.1 v0.1 x.2.2).length:Int))=false->∀ (_:Array Value),(decide (x_1.2.1<(x.1.length:Int))=true->am .i64 ((x.1.length:Int) - x_1.2.1)/\(x_1.1.length+[(x_1.2.1,(x.1.length:Int) - x_1.2.1)].length) * (8+8)<=aL/\x_1.1++[(x_1.2.1,(x.1.length:Int) - x_1.2.1)]=v1.1/\0=v1.2/\True)/\(decide (x_1.2.1<(x.1.length:Int))=false->x_1.1=v1.1/\0=v1.2/\True)))) (aS x.1 x.2.1 x.2.2)) (gz x.1 x.2.1 x.2.2)
theorem xU:ri:=by
 unfold ri;intro ⟨a,keep,pinned⟩ ⟨⟨ha,_⟩,_⟩ _;unfold aL at ha;simp only at ha |-;have hF:gz a keep pinned=(if (aS a keep pinned).2≠0 then [] else b8 a.length keep (aS a keep pinned).1 pinned,(aS a keep pinned).2):=rfl;rw [hF];refine ⟨trivial,fun hc=>?_,fun hc=>?_⟩
 ·rw [if_pos (Nw hc)];exact ⟨rfl,rfl,trivial⟩
 have hz:(aS a keep pinned).2=0:=by simpa using Nx hc
 have hp:=qo hz;rw [if_neg (by omega),hz];generalize (aS a keep pinned).1=long at *;have hlen:(aA keep long pinned).length=keep.length:=by simp [aA]
 have hp':=hp;obtain ⟨p1,p2,p3,p4⟩:=hp';rw [hlen];refine ⟨hp,⟨by omega,by omega,trivial,rfl,rfl⟩,fun ⟨out,e,i⟩ ⟨h0,h1,_,h2,h3⟩=>⟨fun hlt=>?_,fun hge=>?_⟩⟩
 ·have hlt':i<(keep.length:Int):=Nw hlt;simp only at h0 h1 h2 h3 |-;have ht:=pX pinned hp (i:=i.toNat) (by omega);have he:=cf pinned hp i.toNat (by omega);have he':=cf pinned hp (i.toNat+1) (by omega);have hE':bo pinned keep long (i.toNat+1)=fg pinned keep long i.toNat+long.getD i.toNat 0:=rfl
  have hg:(aA keep long pinned).getD i.toNat 0=fg pinned keep long i.toNat:=by
   unfold aA;rw [List.getD_eq_getElem?_getD,List.getElem?_map,List.getElem?_range (by omega)];rfl
  have hl:=ir pinned keep long i.toNat;rw [<- h2] at hl;have hs:(i+1).toNat=i.toNat+1:=by omega
  have hG:gm pinned keep long (i.toNat+1)=out++(if bo pinned keep long i.toNat<fg pinned keep long i.toNat then [(bo pinned keep long i.toNat,fg pinned keep long i.toNat - bo pinned keep long i.toNat)] else []):=by
   rw [h2];rfl
  rw [hg,hs,hG,hE',<- h3];rw [hE'] at he';rw [<- h3] at he;unfold aL;simp only [am,NC,N8];refine ⟨h0,hlt',by omega,fun _=>⟨fun hc=>?_,fun hc=>?_⟩⟩
  ·rw [if_pos (Nw hc)];exact ⟨by omega,by omega,h0,by omega,by omega,by omega,by omega,⟨by omega,by omega,trivial,rfl,trivial⟩,by omega⟩
  ·rw [if_neg (Nx hc),Om];exact ⟨h0,by omega,by omega,by omega,by omega,⟨by omega,by omega,trivial,rfl,trivial⟩,by omega⟩
 ·have hge:¬ i<(keep.length:Int):=Nx hge;simp only at h0 h1 h2 h3 |-;have hi:i.toNat=keep.length:=by omega
  rw [hi] at h2 h3;have he:=cf pinned hp keep.length (by omega);have hl:=ir pinned keep long keep.length
  have hP:b8 a.length keep long pinned=out++(if bo pinned keep long keep.length<a.length then [(bo pinned keep long keep.length,a.length - bo pinned keep long keep.length)] else []):=by
   rw [h2];rfl
  rw [<- h2] at hl;rw [hP,<- h3];rw [<- h3] at he;unfold aL;simp only [am,NC,N8];refine fun _=>⟨fun hc=>?_,fun hc=>?_⟩
  ·rw [if_pos (Nw hc)];exact ⟨by omega,by omega,rfl,trivial,trivial⟩
  ·rw [if_neg (Nx hc),Om];exact ⟨rfl,trivial,trivial⟩
theorem BW:AO.ok Tryz.prog 255:=aF (ann:=CY) (ae BY (ae FK ap)) Tryz.func255 (by kernel_rfl) xU
theorem HR (a:List Int) (at_:Int):af (bU at_ (ac a).1).1=0:=by
 rcases gl at_ (ac a).1 with e | ⟨s,h1,_,_,e⟩
 ·rw [e]; rfl
 ·rw [e]; exact (eJ a s h1).2.2
theorem MY (a:List Int) (at_:Int):1<=df (ac a).1 at_/\df (ac a).1 at_<=256:=by
 have:=aW (HR a at_);unfold df aa;omega
end
section
theorem kX:∀ {l:List aw} {s e:Int},fl s e l->∀ x∈l,s<=x.1/\1<=aa x.2
 | [],_,_,_,x,h=>by cases h
 | y::l,s,e,⟨h1,h2,h3⟩,x,h=>by
  rcases NG.1 h with rfl | h
  ·omega
  ·have:=kX h3 x h;omega
theorem sZ:∀ {l:List aw} {s e:Int},fl s e l->∀ x∈l,∀ y∈l,x.1<y.1->x.1+aa x.2<=y.1
 | [],_,_,_,x,h,_,_,_=>by cases h
 | z::l,s,e,⟨h1,h2,h3⟩,x,hx,y,hy,hlt=>by
  rcases NG.1 hx with hx1 | hx1 <;> rcases NG.1 hy with hy1 | hy1
  ·subst hx1; subst hy1; omega
  ·have:=kX h3 y hy1;subst hx1; omega
  ·have:=kX h3 x hx1;subst hy1; omega
  ·exact sZ h3 x hx1 y hy1 hlt
theorem IG {pinned keep long:List Int} {i:Nat} (hle:bo pinned keep long i<=keep.getD i 0):bo pinned keep long i<=fg pinned keep long i/\fg pinned keep long i<=keep.getD i 0:=by
 unfold fg;split <;> omega
theorem F2 {pinned keep long:List Int} {N:Int} (hp:iY keep long) (hd:∀ i:Nat,i+1<keep.length->keep.getD i 0+long.getD i 0<=keep.getD (i+1) 0) (hN:∀ i:Nat,i<keep.length->keep.getD i 0+long.getD i 0<=N) :
  ∀ i:Nat,i<keep.length->bo pinned keep long i<=keep.getD i 0
 | 0,hi=>by
  have:=hp.2.2.1 _ (aH (0:Int) (xs:=keep) (i:=(0:Nat)) (by omega) (by omega));simp only [Oo] at this;simp only [bo];omega
 | i+1,hi=>by
  have ih:=F2 (pinned:=pinned) hp hd hN i (by omega);have h1:=IG ih;have h2:=hd i hi;have e:bo pinned keep long (i+1)=fg pinned keep long i+long.getD i 0:=rfl;rw [e];omega
theorem HL {a keep pinned:List Int} (h:(aS a keep pinned).2=0):(∀ i:Nat,i+1<keep.length->keep.getD i 0+(keep.map (df (ac a).1)).getD i 0<=keep.getD (i+1) 0)/\∀ i:Nat,i<keep.length->keep.getD i 0+(keep.map (df (ac a).1)).getD i 0<=(a.length:Int):=by
 obtain ⟨h1,h2,_,h4,_,_⟩:=ue h
 have hG:∀ k:Nat,k<keep.length->(keep.map (df (ac a).1)).getD k 0=df (ac a).1 (keep.getD k 0):=by
  intro k hk;rw [List.getD_eq_getElem?_getD,List.getElem?_map,List.getD_eq_getElem?_getD,List.getElem?_eq_getElem hk];rfl
 obtain ⟨_,_,hs3,hs4,_,_,_⟩:=bg h1;have ht:=fG hs4
 have hm:∀ i:Nat,i<keep.length->keep.getD i 0∈keep:=fun i hi=>by
  have:=aH (0:Int) (xs:=keep) (i:=i) (by omega) (by omega);simpa only [Oo] using this
 refine ⟨fun i hi=>?_,fun i hi=>?_⟩
 ·rw [hG i (by omega)];obtain ⟨s,s1,s2,_,s4⟩:=uq (h4 _ (hm i (by omega)));obtain ⟨t,t1,t2,_,_⟩:=uq (h4 _ (hm (i+1) hi))
  have hlt:keep.getD i 0<keep.getD (i+1) 0:=by
   have hp:=Pm.1 (gg h2) i (i+1) (by omega) hi (by omega);rw [List.getD_eq_getElem?_getD,List.getElem?_eq_getElem (by omega),List.getD_eq_getElem?_getD,List.getElem?_eq_getElem hi];exact hp
  rw [s4,<- s2,<- t2];exact sZ ht s s1 t t1 (by omega)
 ·rw [hG i hi];obtain ⟨s,s1,s2,_,s4⟩:=uq (h4 _ (hm i hi));obtain ⟨_,hin,hh⟩:=eJ a s s1;have hz:=aW hh;rw [s4,<- s2];unfold dd at hin;unfold aa;omega
end
section
theorem AF (at_:Int) (l:List Int) (r:List aw) (h:spotsS at_ l=some r):∀ s∈r,at_<=s.1/\s.2=aU (l.getD (s.1 - at_).toNat 0)/\a8 (l.getD (s.1 - at_).toNat 0)=true:=by
 induction at_,l using spotsS.induct generalizing r with
 | case1 at_ =>
  simp only [spotsS,Jg] at h;subst h;simp
 | case2 at_ v l hv ih =>
  rw [cK hv.1 hv.2] at h;obtain ⟨r',hr,rfl⟩:=NB.1 h;have hl:=dR hv.1;intro s hs;rcases NG.1 hs with rfl | hs
  ·simp only [Int.sub_self];exact ⟨O1 _,rfl,hv.1⟩
  ·obtain ⟨h1,h2,h3⟩:=ih r' hr s hs
   have e:((v::l).drop (aa (aU v)).toNat).getD (s.1 - (at_+aa (aU v))).toNat 0=(v::l).getD (s.1 - at_).toNat 0:=by
    rw [List.getD_eq_getElem?_getD,List.getElem?_drop,List.getD_eq_getElem?_getD];congr 2;omega
   rw [e] at h2 h3;exact ⟨by omega,h2,h3⟩
 | case3 at_ v l hv =>
  rw [eH hv] at h;cases h
theorem qT {a:List Int}:∀ s∈(ac a).1,s.2=aU (a.getD s.1.toNat 0)/\a8 (a.getD s.1.toNat 0)=true:=by
 unfold ac;split
 ·intro s hs; cases hs
 ·cases h:spotsS 0 a with
  | none=>intro s hs; cases hs
  | some l =>
   intro s hs;have:=AF 0 a l h s hs;rw [Ps] at this;exact this.2
def eG (a:List Int) (at_:Int):dI:=(bU at_ (ac a).1).1
def bH (a:List Int) (at_:Int):List Int:=aO a (at_,eG a at_)
def gI (a:List Int) (at_:Int):List Int:=iy a (at_,eG a at_)
theorem fj {a:List Int} {at_:Int} (h:isB (ac a).1 at_=true):(at_,eG a at_)∈(ac a).1/\dd a (at_,eG a at_)/\af (eG a at_)=0/\eG a at_=aU (a.getD at_.toNat 0)/\a8 (a.getD at_.toNat 0)=true/\(eG a at_).2.2.2=false:=by
 unfold isB eG at *;rcases gl at_ (ac a).1 with e | ⟨s,h1,h2,h3,e⟩
 ·rw [e] at h; cases h
 ·rw [e];have e2:(at_,s.2)=s:=by rw [<- h2]
  rw [e2];obtain ⟨_,k2,k3⟩:=eJ a s h1;obtain ⟨k4,k5⟩:=qT s h1;rw [h2] at k4 k5;exact ⟨h1,k2,k3,k4,k5,h3⟩
theorem bW {a:List Int} {at_:Int} (h:isB (ac a).1 at_=true):((bH a at_).length:Int)=(eG a at_).1/\((gI a at_).length:Int)=(eG a at_).2.1/\0<=at_/\at_+1+(eG a at_).1+(eG a at_).2.1<=a.length/\0<=(eG a at_).1/\0<=(eG a at_).2.1:=by
 obtain ⟨_,k2,_⟩:=fj h;unfold dd at k2;simp only at k2;refine ⟨?_,?_,by omega,by omega,by omega,by omega⟩
 ·unfold bH aO;rw [NY,NN];simp only;omega
 ·unfold gI iy;rw [NY,NN];simp only;omega
theorem Ev {a:List Int} {at_:Int} (h:isB (ac a).1 at_=true):(a.drop at_.toNat).take (1+(eG a at_).1+(eG a at_).2.1).toNat=a.getD at_.toNat 0::(bH a at_++gI a at_):=by
 obtain ⟨l1,l2,l3,l4,l5,l6⟩:=bW h;unfold bH gI aO iy;simp only;rw [bz (0:Int) l3 (by omega),show (1+(eG a at_).1+(eG a at_).2.1).toNat=((eG a at_).1+(eG a at_).2.1).toNat+1 by omega,OR];congr 1;generalize (eG a at_).1=r at *;generalize (eG a at_).2.1=b at *
 rw [List.drop_take,List.drop_take,show (r+b).toNat=r.toNat+b.toNat by omega,show (at_+1+r).toNat - (at_+1).toNat=r.toNat by omega,show (at_+1+r+b).toNat - (at_+1+r).toNat=b.toNat by omega,
  List.take_add,OT,show (at_+1).toNat+r.toNat=(at_+1+r).toNat by omega]
def kJ (keep to:List Int) (v:Int):Option Int:=if v=0 then some 0 else if fx keep (v - 1)=true then some (to.getD (cC keep (v - 1)).toNat 0+1) else none
def jX (keep to:List Int) (v:Int):Int:=(kJ keep to v).getD 0
def eV (keep to l:List Int):Bool:=l.all fun v=>(kJ keep to v).isSome
def gS (a keep to:List Int) (at_:Int):List Int:=a.getD at_.toNat 0::((bH a at_).map (jX keep to)++gI a at_)
def qx (pinned keep long:List Int) (i:Nat):List Int:=List.replicate (fg pinned keep long i - bo pinned keep long i).toNat 0
def eo (a keep to pinned long:List Int):Nat->List Int
 | 0=>[]
 | i+1=>eo a keep to pinned long i++(qx pinned keep long i++gS a keep to (keep.getD i 0))
def jd (w:List Int) (r:cR):List Int:=w.set r.1.toNat (aB (0,r.2 - 1,0,true))
def lI (a keep to pinned long:List Int) (g:List cR):List Int :=
 g.foldl jd (eo a keep to pinned long keep.length++List.replicate ((a.length:Int) - bo pinned keep long keep.length).toNat 0)
def dZ (a keep pinned:List Int):List Int×List Int×Int :=
 if (aS a keep pinned).2≠0 then ([],[],(aS a keep pinned).2)
 else if (keep.all fun at_=>eV keep (aA keep (aS a keep pinned).1 pinned) (bH a at_))=true then
  (lI a keep (aA keep (aS a keep pinned).1 pinned) pinned (aS a keep pinned).1 (b8 a.length keep (aS a keep pinned).1 pinned),aA keep (aS a keep pinned).1 pinned,0)
 else ([],[],8)
structure Plan (a keep pinned long:List Int):Prop where
 chk:(ak a).2.2=0
 al:a.length<=256
 isb:∀ x∈keep,isB (ac a).1 x=true
 pre:iY keep long
 lg:∀ i:Nat,i<keep.length->long.getD i 0=1+(eG a (keep.getD i 0)).1+(eG a (keep.getD i 0)).2.1
 le:∀ i:Nat,i<keep.length->bo pinned keep long i<=fg pinned keep long i/\fg pinned keep long i+long.getD i 0<=(a.length:Int)
 en:bo pinned keep long keep.length<=(a.length:Int)
 rs:keep.Pairwise (·<·)
theorem FF {a keep pinned:List Int} (h:(aS a keep pinned).2=0):Plan a keep pinned (aS a keep pinned).1:=by
 obtain ⟨k1,k2,_,k4,_,k6⟩:=ue h;obtain ⟨d1,d2⟩:=HL h;have hp:=qo h;rw [k6] at hp |-
 have hG:∀ k:Nat,k<keep.length->(keep.map (df (ac a).1)).getD k 0=df (ac a).1 (keep.getD k 0):=by
  intro k hk;rw [List.getD_eq_getElem?_getD,List.getElem?_map,List.getD_eq_getElem?_getD,List.getElem?_eq_getElem hk];rfl
 have hle:=F2 (pinned:=pinned) hp d1 d2
 have hto:∀ i:Nat,i<keep.length->bo pinned keep (keep.map (df (ac a).1)) i<=fg pinned keep (keep.map (df (ac a).1)) i/\fg pinned keep (keep.map (df (ac a).1)) i+(keep.map (df (ac a).1)).getD i 0<=(a.length:Int):=fun i hi=>by
  have h1:=IG (hle i hi);have h2:=d2 i hi;omega
 refine ⟨k1,(bg k1).1,k4,hp,fun i hi=>by rw [hG i hi]; rfl,hto,?_,gg k2⟩;cases hn:keep.length with
 | zero=>simp [bo]
 | succ n =>
  have:=hto n (by omega);show fg pinned keep (keep.map (df (ac a).1)) n+(keep.map (df (ac a).1)).getD n 0<=_;exact this.2
theorem ki {a keep to:List Int} {at_:Int} (h:isB (ac a).1 at_=true):((gS a keep to at_).length:Int)=1+(eG a at_).1+(eG a at_).2.1:=by
 obtain ⟨l1,l2,_⟩:=bW h;unfold gS;simp only [NC,NE,Oh];omega
theorem dQ {keep:List Int} {i:Nat} (h:i<keep.length):keep.getD i 0∈keep:=by
 have:=aH (0:Int) (xs:=keep) (i:=i) (by omega) (by omega);simpa only [Oo] using this
theorem ka {a keep pinned long:List Int} (to:List Int) (hP:Plan a keep pinned long):∀ i:Nat,i<=keep.length->((eo a keep to pinned long i).length:Int)=bo pinned keep long i
 | 0,_=>rfl
 | i+1,hi=>by
  have ih:=ka to hP i (by omega);have h1:=ki (keep:=keep) (to:=to) (hP.isb _ (dQ (i:=i) (by omega)));have h2:=hP.le i (by omega);have h3:=hP.lg i (by omega);have hE:bo pinned keep long (i+1)=fg pinned keep long i+long.getD i 0:=rfl;simp only [eo,NE,qx,N0];omega
def pb (keep to:List Int):Nat->List (Int×Int)
 | 0=>[(0,0)]
 | i+1=>fW (pb keep to i) (keep.getD i 0+1) (to.getD i 0+1)
theorem np {α:Type} (f:α->Bool) (x:α):∀ (l:List α) (k:Int),ag f k (l++[x])=if l.any f=true then ag f k l else if f x=true then k+l.length else -1
 | [],k=>by simp [ag]
 | y::l,k=>by
  have ih:=np f x l (k+1);simp only [Oq,ag,Pb,ih];by_cases hy:f y=true
  ·simp [hy]
  ·have hy:f y=false:=by simpa using hy
   simp only [hy,NJ,N4,Pt,NC];split
   ·rfl
   ·split
    ·omega
    ·rfl
theorem xm {keep to:List Int} (hk:keep.Pairwise (·<·)) (h0:∀ x∈keep,0<=x) (v:Int):∀ i:Nat,i<=keep.length->bq (pb keep to i) v=if v=0 then some 0 else if fx (keep.take i) (v - 1)=true then some (to.getD (cC (keep.take i) (v - 1)).toNat 0+1) else none
 | 0,_=>by
  simp only [pb,bq,Pc,fx,List.any_nil,NJ,N4];by_cases hv:v=0
  ·simp [hv]
  ·simp [hv,Ne.symm hv]
 | i+1,hi=>by
  have ih:=xm (to:=to) hk h0 v i (by omega);have hx:=h0 _ (dQ (i:=i) (by omega))
  have ht:keep.take (i+1)=keep.take i++[keep.getD i 0]:=by
   rw [Ol (by omega)];congr 2;rw [List.getD_eq_getElem?_getD,List.getElem?_eq_getElem (by omega)];rfl
  have hnot:fx (keep.take i) (keep.getD i 0)=false:=by
   unfold fx;rw [PR];intro y hy;obtain ⟨j,hj,rfl⟩:=PZ.1 hy;rw [NN] at hj;have:=Pm.1 hk j i (by omega) (by omega) (by omega);rw [List.getElem_take];simp only [N5];rw [List.getD_eq_getElem?_getD,List.getElem?_eq_getElem (by omega)];simp only [PI];omega
  simp only [pb];rw [ji,ih,ht];unfold cC fx;rw [np,List.any_append];simp only [Pb,List.any_nil,O2,NN];by_cases hv:v=keep.getD i 0+1
  ·rw [if_pos hv,if_neg (by omega)];have e:v - 1=keep.getD i 0:=by omega
   rw [e];unfold fx at hnot;rw [hnot];simp only [decide_true,Bool.or_true,if_true,NJ,N4];rw [show (0+((min i keep.length:Nat):Int)).toNat=i by omega]
  ·rw [if_neg hv];have e:decide (keep.getD i 0=v - 1)=false:=OP (by omega);rw [e,O2];split
   ·rfl
   ·split
    ·rfl
    ·rfl
theorem JA {keep to:List Int} (hk:keep.Pairwise (·<·)) (h0:∀ x∈keep,0<=x) (v:Int):bq (pb keep to keep.length) v=kJ keep to v:=by
 rw [xm hk h0 v keep.length (NR _),PW];rfl
theorem qV:∀ {l:List aw} {s t:aw},l.Pairwise (fun s t=>s.1<t.1)->s∈l->t∈l->s.1=t.1->s=t
 | x::l,s,t,h,hs,ht,e=>by
  obtain ⟨h1,h2⟩:=Oc.1 h;rcases NG.1 hs with hs | hs <;> rcases NG.1 ht with ht | ht
  ·rw [hs,ht]
  ·have:=h1 t ht; subst hs; omega
  ·have:=h1 s hs; subst ht; omega
  ·exact qV h2 hs ht e
theorem F7 {a:List Int} {at_:Int} (hc:(ak a).2.2=0) (h:isB (ac a).1 at_=true):(g9 a at_).1.2.1.length=(bH a at_).length/\(g9 a at_).1.2.2.1.length=(gI a at_).length:=by
 obtain ⟨k1,_⟩:=fj h;obtain ⟨_,_,e3,_⟩:=bg hc;have hany:((ac a).1.any fun s:aw=>decide (s.1=at_))=true:=OK.2 ⟨_,k1,by simp⟩;have hpos:=dX (fun s:aw=>decide (s.1=at_)) (ac a).1 0 (by omega);rw [hany] at hpos;have hpos:=Nw hpos;have hlt:=dV (fun s:aw=>decide (s.1=at_)) (0,0,0,0,false) (ac a).1 0 (by omega);have his:=dW (fun s:aw=>decide (s.1=at_)) (0,0,0,0,false) (ac a).1 0 hpos (by omega);rw [Ps] at his;have hm:=aH ((0,0,0,0,false):aw) (xs:=(ac a).1) hpos (by omega);have e:=qV (bV a) hm k1 (Nw his);unfold g9;rw [if_neg (by omega),e3,if_neg (by omega),e];unfold gU bH gI;exact ⟨by rw [Oh],rfl⟩
theorem oD {A B:List Int} {x:Int} (y:Int) {n:Nat} (h:n=A.length):(A++x::B).set n y=A++y::B:=by
 rw [h,Pj _ _ (NR _)];simp
theorem Lo {A B:List Int} {x:Int} {n:Nat} (h:n=A.length):(A++x::B).getD n 0=x:=by
 rw [h,List.getD_eq_getElem?_getD,List.getElem?_append_right (NR _)];simp
theorem xz {a keep pinned long:List Int} (hP:Plan a keep pinned long):∀ i:Nat,i<=keep.length->∀ r∈gm pinned keep long i,0<=r.1/\1<=r.2/\r.1+r.2<=(a.length:Int)
 | 0,_,r,hr=>by cases hr
 | i+1,hi,r,hr=>by
  simp only [gm] at hr;rcases NI.1 hr with hr | hr
  ·exact xz hP i (by omega) r hr
  ·have h1:=hP.le i (by omega);have h2:=hP.lg i (by omega);have h3:=cf pinned hP.pre i (by omega);obtain ⟨_,_,_,l4,l5,l6⟩:=bW (hP.isb _ (dQ (i:=i) (by omega)));split at hr
   ·simp only [NL] at hr;subst hr;simp only;omega
   ·cases hr
theorem BQ {a keep pinned long:List Int} (hP:Plan a keep pinned long):∀ r∈b8 a.length keep long pinned,0<=r.1/\1<=r.2/\r.1+r.2<=(a.length:Int):=by
 intro r hr;unfold b8 at hr;rcases NI.1 hr with hr | hr
 ·exact xz hP _ (NR _) r hr
 ·have h3:=cf pinned hP.pre keep.length (NR _);split at hr
  ·simp only [NL] at hr;subst hr;simp only;omega
  ·cases hr
theorem sd (n:Int) (keep long pinned:List Int):(b8 n keep long pinned).length<=keep.length+1:=by
 have:=ir pinned keep long keep.length;unfold b8;rw [NE];split <;> simp <;> omega
def Kq:Nat->Option LoopGen
 | 6=>some { rd:=[.dat 39 (.arr ty_I),.own 9 3 ty_I],A:=fun ((keep,to):List Int×List Int)=>{ cs:=[.map 37 .u64 bJ,.dat 41 ty_I],inv:=fun ((m,i):List (Int×Int)×Int)=>0<=i/\i<=keep.length/\m=pb keep to i.toNat,mu:=fun ((_,i):List (Int×Int)×Int)=>(keep.length - i).toNat } }
 | 12=>some { rd:=[.dat 60 (.arr ty_I),.own 9 3 ty_I,.dat 0 (.arr bJ),.dat 2 (.arr ty_I)],wr:=[14],A:=fun ((keep,to,a,pinned):List Int×List Int×List Int×List Int)=>{ cs:=[.own 14 45 bJ,.dat 62 ty_I],inv:=fun ((w,i):List Int×Int)=>0<=i/\i<=keep.length/\((keep.drop i.toNat).all fun at_=>eV keep to (bH a at_))=(keep.all fun at_=>eV keep to (bH a at_))/\w=eo a keep to pinned (aS a keep pinned).1 i.toNat++List.replicate ((a.length:Int) - bo pinned keep (aS a keep pinned).1 i.toNat).toNat 0,mu:=fun ((_,i):List Int×Int)=>(keep.length - i).toNat } }
 | 18=>some { rd:=[.dat 60 (.arr ty_I),.own 9 3 ty_I,.dat 0 (.arr bJ),.dat 2 (.arr ty_I),.dat 15 ty_I,.dat 99 ty_I],wr:=[14,19],A:=fun ((keep,to,a,pinned,i,n):List Int×List Int×List Int×List Int×Int×Int)=>{ cs:=[.own 14 45 bJ,.part 19 14 bJ,.dat 100 ty_I],inv:=fun ((w,pt,k):List Int×(Nat×Nat)×Int)=>0<=k/\k<=n/\pt.1=(fg pinned keep (aS a keep pinned).1 i.toNat).toNat/\(pt.2:Int)=(aS a keep pinned).1.getD i.toNat 0/\eV keep to ((bH a (keep.getD i.toNat 0)).drop k.toNat)=eV keep to (bH a (keep.getD i.toNat 0)) /\
   w=(eo a keep to pinned (aS a keep pinned).1 i.toNat++(qx pinned keep (aS a keep pinned).1 i.toNat++a.getD (keep.getD i.toNat 0).toNat 0::((bH a (keep.getD i.toNat 0)).take k.toNat).map (jX keep to)))++((bH a (keep.getD i.toNat 0)).drop k.toNat++(gI a (keep.getD i.toNat 0)++List.replicate ((a.length:Int) - bo pinned keep (aS a keep pinned).1 (i.toNat+1)).toNat 0)),mu:=fun ((_,_,k):List Int×(Nat×Nat)×Int)=>(n - k).toNat } }
 | 28=>some { rd:=[.own 129 105 jp,.own 14 45 bJ],wr:=[14],A:=fun ((g,w0):List cR×List Int)=>{ cs:=[.own 14 45 bJ,.dat 131 ty_I],inv:=fun ((w,i):List Int×Int)=>0<=i/\i<=g.length/\w.length=w0.length/\w=(g.take i.toNat).foldl jd w0,mu:=fun ((_,i):List Int×Int)=>(g.length - i).toNat } }
 | _=>none
def IO:Spec:={ Ts:=[.arr bJ,.arr ty_I,.arr ty_I],Rs:=[.own 45 bJ,.own 3 ty_I,.dat ty_I],pre:=fun _=>True,F:=fun ((a,keep,pinned):List Int×List Int×List Int)=>dZ a keep pinned }
def BA:Prop :=
  ∀ (x:List Int×List Int×List Int),(fun (v4:type_of% (dZ x.1 x.2.1 x.2.2))=>(fun (v2:type_of% (gz x.1 x.2.1 x.2.2))=>(fun (v0:type_of% (aS x.1 x.2.1 x.2.2))=>((x.1.length * 8<=aL/\∀ (x_1:Int),x_1∈x.1->am .u64 x_1)/\(x.2.1.length * 8<=aL/\∀ (x_1:Int),x_1∈x.2.1->am .i64 x_1)/\x.2.2.length * 8<=aL/\∀ (x_1:Int),x_1∈x.2.2->am .i64 x_1)->True->True/\(decide (v0.2≠0)=true->([]:List Int)=v4.1/\([]:List Int)=v4.2.1/\v0.2=v4.2.2/\True)/\(decide (v0.2≠0)=false->((0:Int)<=0/\0<=(x.2.1.length:Int)/\fW ([]:List (Int×Int)) 0 0=pb x.2.1 (if v0.2≠0 then ([]:List Int) else aA x.2.1 v0.1 x.2.2) (Int.toNat 0))/\∀ (x_1:List (Int×Int)×Int),0<=x_1.2/\x_1.2<=(x.2.1.length:Int)/\x_1.1=pb x.2.1 (if v0.2≠0 then ([]:List Int) else aA x.2.1 v0.1 x.2.2) x_1.2.toNat->(decide (x_1.2<(x.2.1.length:Int))=true->0<=x_1.2/\x_1.2<(x.2.1.length:Int)/\am .u64 (IntKind.u64.wrap (x.2.1.getD x_1.2.toNat 0)+1)/\0<=x_1.2/\x_1.2<(↑(if v0.2≠0 then ([]:List Int) else aA x.2.1 v0.1 x.2.2).length:Int)/\x_1.2.toNat<(if v0.2≠0 then ([]:List Int) else aA x.2.1 v0.1 x.2.2).length/\am .u64 (IntKind.u64.wrap ((if v0.2≠0 then ([]:List Int) else aA x.2.1 v0.1 x.2.2).getD x_1.2.toNat 0)+1)/\am .i64 (x_1.2+1)/\(0<=x_1.2+1/\x_1.2+1<=(x.2.1.length:Int)/\fW x_1.1 (IntKind.u64.wrap (x.2.1.getD x_1.2.toNat 0)+1) (IntKind.u64.wrap ((if v0.2≠0 then ([]:List Int) else aA x.2.1 v0.1 x.2.2).getD x_1.2.toNat 0)+1)=pb x.2.1 (if v0.2≠0 then ([]:List Int) else aA x.2.1 v0.1 x.2.2) (x_1.2+1).toNat)/\((x.2.1.length:Int) - (x_1.2+1)).toNat<((x.2.1.length:Int) - x_1.2).toNat)/\(decide (x_1.2<(x.2.1.length:Int))=false->0<=(x.1.length:Int)/\(x.1.length:Int).toNat * 8<=aL/\((0:Int)<=0/\0<=(x.2.1.length:Int)/\(((List.drop (Int.toNat 0) x.2.1).all fun (at_:Int)=>eV x.2.1 (if v0.2≠0 then ([]:List Int) else aA x.2.1 v0.1 x.2.2) (bH x.1 at_))=x.2.1.all fun (at_:Int)=>eV x.2.1 (if v0.2≠0 then ([]:List Int) else aA x.2.1 v0.1 x.2.2) (bH x.1 at_))/\List.replicate (x.1.length:Int).toNat (0:Int)=eo x.1 x.2.1 (if v0.2≠0 then ([]:List Int) else aA x.2.1 v0.1 x.2.2) x.2.2 v0.1 (Int.toNat 0)++List.replicate ((x.1.length:Int) - bo x.2.2 x.2.1 v0.1 (Int.toNat 0)).toNat (0:Int))/\∀ (x_2:List Int×Int),(fun (v1:type_of% (x.2.1.getD x_2.2.toNat 0))=>0<=x_2.2/\x_2.2<=(x.2.1.length:Int)/\(((List.drop x_2.2.toNat x.2.1).all fun (at_:Int)=>eV x.2.1 (if v0.2≠0 then ([]:List Int) else aA x.2.1 v0.1 x.2.2) (bH x.1 at_))=x.2.1.all fun (at_:Int)=>eV x.2.1 (if v0.2≠0 then ([]:List Int) else aA x.2.1 v0.1 x.2.2) (bH x.1 at_))/\x_2.1=eo x.1 x.2.1 (if v0.2≠0 then ([]:List Int) else aA x.2.1 v0.1 x.2.2) x.2.2 v0.1 x_2.2.toNat++List.replicate ((x.1.length:Int) - bo x.2.2 x.2.1 v0.1 x_2.2.toNat).toNat (0:Int)->(decide (x_2.2<(x.2.1.length:Int))=true->0<=x_2.2/\x_2.2<(x.2.1.length:Int)/\True/\0<=x_2.2/\x_2.2<(↑(if v0.2≠0 then ([]:List Int) else aA x.2.1 v0.1 x.2.2).length:Int)/\x_2.2.toNat<(if v0.2≠0 then ([]:List Int) else aA x.2.1 v0.1 x.2.2).length/\0<=x_2.2/\x_2.2<(↑(if v0.2≠0 then ([]:List Int) else aA x.2.1 v0.1 x.2.2).length:Int)/\x_2.2.toNat<(if v0.2≠0 then ([]:List Int) else aA x.2.1 v0.1 x.2.2).length/\am .i64 ((if v0.2≠0 then ([]:List Int) else aA x.2.1 v0.1 x.2.2).getD x_2.2.toNat 0+1)/\am .i64 ((if v0.2≠0 then ([]:List Int) else aA x.2.1 v0.1 x.2.2).getD x_2.2.toNat 0+1+(↑(g9 x.1 v1).1.2.1.length:Int))/\am .i64 ((if v0.2≠0 then ([]:List Int) else aA x.2.1 v0.1 x.2.2).getD x_2.2.toNat 0+1+(↑(g9 x.1 v1).1.2.1.length:Int)+(↑(g9 x.1 v1).1.2.2.1.length:Int))/\0<=(if v0.2≠0 then ([]:List Int) else aA x.2.1 v0.1 x.2.2).getD x_2.2.toNat 0/\(if v0.2≠0 then ([]:List Int) else aA x.2.1 v0.1 x.2.2).getD x_2.2.toNat 0<=(if v0.2≠0 then ([]:List Int) else aA x.2.1 v0.1 x.2.2).getD x_2.2.toNat 0+1+(↑(g9 x.1 v1).1.2.1.length:Int)+(↑(g9 x.1 v1).1.2.2.1.length:Int)/\(if v0.2≠0 then ([]:List Int) else aA x.2.1 v0.1 x.2.2).getD x_2.2.toNat 0+1+(↑(g9 x.1 v1).1.2.1.length:Int)+(↑(g9 x.1 v1).1.2.2.1.length:Int)<=(x_2.1.length:Int)/\0<=x.2.1.getD x_2.2.toNat 0/\x.2.1.getD x_2.2.toNat 0<=(x.1.length:Int)/\((if v0.2≠0 then ([]:List Int) else aA x.2.1 v0.1 x.2.2).getD x_2.2.toNat 0).toNat+(((if v0.2≠0 then ([]:List Int) else aA x.2.1 v0.1 x.2.2).getD x_2.2.toNat 0+1+(↑(g9 x.1 v1).1.2.1.length:Int)+(↑(g9 x.1 v1).1.2.2.1.length:Int)).toNat - ((if v0.2≠0 then ([]:List Int) else aA x.2.1 v0.1 x.2.2).getD x_2.2.toNat 0).toNat)<=x_2.1.length/\((0:Int)<=0/\0<=(↑(g9 x.1 v1).1.2.1.length:Int)/\((if v0.2≠0 then ([]:List Int) else aA x.2.1 v0.1 x.2.2).getD x_2.2.toNat 0).toNat=(fg x.2.2 x.2.1 v0.1 x_2.2.toNat).toNat/\(↑(((if v0.2≠0 then ([]:List Int) else aA x.2.1 v0.1 x.2.2).getD x_2.2.toNat 0+1+(↑(g9 x.1 v1).1.2.1.length:Int)+(↑(g9 x.1 v1).1.2.2.1.length:Int)).toNat - ((if v0.2≠0 then ([]:List Int) else aA x.2.1 v0.1 x.2.2).getD x_2.2.toNat 0).toNat):Int)=v0.1.getD x_2.2.toNat 0/\eV x.2.1 (if v0.2≠0 then ([]:List Int) else aA x.2.1 v0.1 x.2.2) (List.drop (Int.toNat 0) (bH x.1 v1))=eV x.2.1 (if v0.2≠0 then ([]:List Int) else aA x.2.1 v0.1 x.2.2) (bH x.1 v1)/\List.take ((if v0.2≠0 then ([]:List Int) else aA x.2.1 v0.1 x.2.2).getD x_2.2.toNat 0).toNat x_2.1++(List.take (min (List.drop v1.toNat x.1).length (((if v0.2≠0 then ([]:List Int) else aA x.2.1 v0.1 x.2.2).getD x_2.2.toNat 0+1+(↑(g9 x.1 v1).1.2.1.length:Int)+(↑(g9 x.1 v1).1.2.2.1.length:Int)).toNat - ((if v0.2≠0 then ([]:List Int) else aA x.2.1 v0.1 x.2.2).getD x_2.2.toNat 0).toNat)) (List.drop v1.toNat x.1)++List.drop (((if v0.2≠0 then ([]:List Int) else aA x.2.1 v0.1 x.2.2).getD x_2.2.toNat 0).toNat+min (List.drop v1.toNat x.1).length (((if v0.2≠0 then ([]:List Int) else aA x.2.1 v0.1 x.2.2).getD x_2.2.toNat 0+1+(↑(g9 x.1 v1).1.2.1.length:Int)+(↑(g9 x.1 v1).1.2.2.1.length:Int)).toNat - ((if v0.2≠0 then ([]:List Int) else aA x.2.1 v0.1 x.2.2).getD x_2.2.toNat 0).toNat)) x_2.1)=eo x.1 x.2.1 (if v0.2≠0 then ([]:List Int) else aA x.2.1 v0.1 x.2.2) x.2.2 v0.1 x_2.2.toNat++(qx x.2.2 x.2.1 v0.1 x_2.2.toNat++x.1.getD v1.toNat 0::List.map (jX x.2.1 (if v0.2≠0 then ([]:List Int) else aA x.2.1 v0.1 x.2.2)) (List.take (Int.toNat 0) (bH x.1 v1)))++(List.drop (Int.toNat 0) (bH x.1 v1)++(gI x.1 v1++List.replicate ((x.1.length:Int) - bo x.2.2 x.2.1 v0.1 (x_2.2.toNat+1)).toNat (0:Int))))/\∀ (x_3:List Int×(Nat×Nat)×Int),0<=x_3.2.2/\x_3.2.2<=(↑(g9 x.1 v1).1.2.1.length:Int)/\x_3.2.1.1=(fg x.2.2 x.2.1 v0.1 x_2.2.toNat).toNat/\(↑x_3.2.1.2:Int)=v0.1.getD x_2.2.toNat 0/\eV x.2.1 (if v0.2≠0 then ([]:List Int) else aA x.2.1 v0.1 x.2.2) (List.drop x_3.2.2.toNat (bH x.1 v1))=eV x.2.1 (if v0.2≠0 then ([]:List Int) else aA x.2.1 v0.1 x.2.2) (bH x.1 v1)/\x_3.1=eo x.1 x.2.1 (if v0.2≠0 then ([]:List Int) else aA x.2.1 v0.1 x.2.2) x.2.2 v0.1 x_2.2.toNat++(qx x.2.2 x.2.1 v0.1 x_2.2.toNat++x.1.getD v1.toNat 0::List.map (jX x.2.1 (if v0.2≠0 then ([]:List Int) else aA x.2.1 v0.1 x.2.2)) (List.take x_3.2.2.toNat (bH x.1 v1)))++(List.drop x_3.2.2.toNat (bH x.1 v1)++(gI x.1 v1++List.replicate ((x.1.length:Int) - bo x.2.2 x.2.1 v0.1 (x_2.2.toNat+1)).toNat (0:Int)))->(decide (x_3.2.2<(↑(g9 x.1 v1).1.2.1.length:Int))=true->am .i64 (1+x_3.2.2)/\(0:Int)<=1+x_3.2.2/\1+x_3.2.2<(↑x_3.2.1.2:Int)/\x_3.2.1.1+(1+x_3.2.2).toNat<x_3.1.length/\((!(bq x_1.1 (x_3.1.getD (x_3.2.1.1+(1+x_3.2.2).toNat) 0)).isSome)=true->([]:List Int)=v4.1/\([]:List Int)=v4.2.1/\8=v4.2.2/\True)/\((!(bq x_1.1 (x_3.1.getD (x_3.2.1.1+(1+x_3.2.2).toNat) 0)).isSome)=false->am .i64 (1+x_3.2.2)/\(0:Int)<=1+x_3.2.2/\1+x_3.2.2<(↑x_3.2.1.2:Int)/\x_3.2.1.1+(1+x_3.2.2).toNat<x_3.1.length/\am .i64 (x_3.2.2+1)/\(0<=x_3.2.2+1/\x_3.2.2+1<=(↑(g9 x.1 v1).1.2.1.length:Int)/\x_3.2.1.1=(fg x.2.2 x.2.1 v0.1 x_2.2.toNat).toNat/\(↑x_3.2.1.2:Int)=v0.1.getD x_2.2.toNat 0/\eV x.2.1 (if v0.2≠0 then ([]:List Int) else aA x.2.1 v0.1 x.2.2) (List.drop (x_3.2.2+1).toNat (bH x.1 v1))=eV x.2.1 (if v0.2≠0 then ([]:List Int) else aA x.2.1 v0.1 x.2.2) (bH x.1 v1)/\x_3.1.set (x_3.2.1.1+(1+x_3.2.2).toNat) ((bq x_1.1 (x_3.1.getD (x_3.2.1.1+(1+x_3.2.2).toNat) 0)).getD 0)=eo x.1 x.2.1 (if v0.2≠0 then ([]:List Int) else aA x.2.1 v0.1 x.2.2) x.2.2 v0.1 x_2.2.toNat++(qx x.2.2 x.2.1 v0.1 x_2.2.toNat++x.1.getD v1.toNat 0::List.map (jX x.2.1 (if v0.2≠0 then ([]:List Int) else aA x.2.1 v0.1 x.2.2)) (List.take (x_3.2.2+1).toNat (bH x.1 v1)))++(List.drop (x_3.2.2+1).toNat (bH x.1 v1)++(gI x.1 v1++List.replicate ((x.1.length:Int) - bo x.2.2 x.2.1 v0.1 (x_2.2.toNat+1)).toNat (0:Int))))/\((↑(g9 x.1 v1).1.2.1.length:Int) - (x_3.2.2+1)).toNat<((↑(g9 x.1 v1).1.2.1.length:Int) - x_3.2.2).toNat))/\(decide (x_3.2.2<(↑(g9 x.1 v1).1.2.1.length:Int))=false->am .i64 (x_2.2+1)/\(0<=x_2.2+1/\x_2.2+1<=(x.2.1.length:Int)/\(((List.drop (x_2.2+1).toNat x.2.1).all fun (at_:Int)=>eV x.2.1 (if v0.2≠0 then ([]:List Int) else aA x.2.1 v0.1 x.2.2) (bH x.1 at_))=x.2.1.all fun (at_:Int)=>eV x.2.1 (if v0.2≠0 then ([]:List Int) else aA x.2.1 v0.1 x.2.2) (bH x.1 at_))/\x_3.1=eo x.1 x.2.1 (if v0.2≠0 then ([]:List Int) else aA x.2.1 v0.1 x.2.2) x.2.2 v0.1 (x_2.2+1).toNat++List.replicate ((x.1.length:Int) - bo x.2.2 x.2.1 v0.1 (x_2.2+1).toNat).toNat (0:Int))/\((x.2.1.length:Int) - (x_2.2+1)).toNat<((x.2.1.length:Int) - x_2.2).toNat))/\(decide (x_2.2<(x.2.1.length:Int))=false->True/\((0:Int)<=0/\0<=(v2.1.length:Int)/\x_2.1.length=x_2.1.length/\x_2.1=List.foldl jd x_2.1 (List.take (Int.toNat 0) v2.1))/\∀ (x_3:List Int×Int),(fun (v3:type_of% (v2.1.getD x_3.2.toNat (0,0)))=>0<=x_3.2/\x_3.2<=(v2.1.length:Int)/\x_3.1.length=x_2.1.length/\x_3.1=List.foldl jd x_2.1 (List.take x_3.2.toNat v2.1)->(decide (x_3.2<(v2.1.length:Int))=true->0<=x_3.2/\x_3.2<(v2.1.length:Int)/\x_3.2.toNat<v2.1.length/\am .i64 (v3.2 - 1)/\True/\0<=v3.1/\v3.1<(x_3.1.length:Int)/\v3.1.toNat<x_3.1.length/\af (0,v3.2 - 1,0,true)=af (0,v3.2 - 1,0,true)/\am .i64 (x_3.2+1)/\(0<=x_3.2+1/\x_3.2+1<=(v2.1.length:Int)/\(x_3.1.set v3.1.toNat (if af (0,v3.2 - 1,0,true)=0 then aB (0,v3.2 - 1,0,true) else (0:Int))).length=x_2.1.length/\x_3.1.set v3.1.toNat (if af (0,v3.2 - 1,0,true)=0 then aB (0,v3.2 - 1,0,true) else (0:Int))=List.foldl jd x_2.1 (List.take (x_3.2+1).toNat v2.1))/\((v2.1.length:Int) - (x_3.2+1)).toNat<((v2.1.length:Int) - x_3.2).toNat)/\(decide (x_3.2<(v2.1.length:Int))=false->x_3.1=v4.1/\(if v0.2≠0 then ([]:List Int) else aA x.2.1 v0.1 x.2.2)=v4.2.1/\0=v4.2.2/\True)) (v2.1.getD x_3.2.toNat (0,0)))) (x.2.1.getD x_2.2.toNat 0)))) (aS x.1 x.2.1 x.2.2)) (gz x.1 x.2.1 x.2.2)) (dZ x.1 x.2.1 x.2.2)
theorem Gj:BA:=by
 unfold BA;intro ⟨a,keep,pinned⟩ ⟨⟨hb,hw⟩,_⟩ _;unfold aL at hb;simp only at hb hw |-
 have hF:dZ a keep pinned=if (aS a keep pinned).2≠0 then ([],[],(aS a keep pinned).2)
  else if (keep.all fun at_=>eV keep (aA keep (aS a keep pinned).1 pinned) (bH a at_))=true then
   (lI a keep (aA keep (aS a keep pinned).1 pinned) pinned (aS a keep pinned).1 (b8 a.length keep (aS a keep pinned).1 pinned),aA keep (aS a keep pinned).1 pinned,0)
  else ([],[],8):=rfl
 rw [hF];refine ⟨trivial,fun hc=>?_,fun hc=>?_⟩
 ·rw [if_pos (Nw hc)];exact ⟨rfl,rfl,rfl,trivial⟩
 have hz:(aS a keep pinned).2=0:=by simpa using Nx hc
 have hP:=FF hz
 have hG:gz a keep pinned=(b8 a.length keep (aS a keep pinned).1 pinned,0):=by
  unfold gz;rw [if_neg (by omega),hz]
 rw [if_neg (by omega),if_neg (by omega),hG];clear hF hG hc hz;generalize (aS a keep pinned).1=long at *;have hto:(aA keep long pinned).length=keep.length:=by simp [aA]
 have htg:∀ i:Nat,i<keep.length->(aA keep long pinned).getD i 0=fg pinned keep long i:=by
  intro i hi;unfold aA;rw [List.getD_eq_getElem?_getD,List.getElem?_map,List.getElem?_range hi];rfl
 have hk0:∀ x∈keep,0<=x:=fun x hx=>(hP.pre.2.2.1 x hx).1
 have hkl:=hP.pre.2.1;have hlong:=hP.pre.1;have hal:=hP.al;have hgi:=BQ hP;have hgl:=sd a.length keep long pinned;rw [hto];generalize aA keep long pinned=to at *;generalize b8 a.length keep long pinned=g at *;refine ⟨⟨by omega,by omega,rfl⟩,fun ⟨m,i⟩ ⟨h0,h1,h2⟩=>⟨fun hlt=>?_,fun hge=>?_⟩⟩
 ·have hlt':i<(keep.length:Int):=Nw hlt;simp only at h0 h1 h2 |-;have hx:=hP.pre.2.2.1 _ (aH (0:Int) h0 hlt');have ht:=pX pinned hP.pre (i:=i.toNat) (by omega);rw [<- htg i.toNat (by omega)] at ht;rw [fP (n:=keep.getD i.toNat 0) (by omega) (by omega),fP (n:=to.getD i.toNat 0) (by omega) (by omega)];simp only [am];refine ⟨h0,hlt',by omega,h0,by omega,by omega,by omega,by omega,⟨by omega,by omega,?_⟩,by omega⟩;rw [show (i+1).toNat=i.toNat+1 by omega,h2];rfl
 have hge:¬ i<(keep.length:Int):=Nx hge;simp only at h0 h1 h2 |-;rw [show i.toNat=keep.length by omega] at h2;subst h2;clear h0 h1 hge;unfold aL;refine ⟨by omega,by omega,⟨by omega,by omega,rfl,?_⟩,fun ⟨w,i⟩ ⟨b0,b1,b2,b3⟩=>⟨fun hlt=>?_,fun hge=>?_⟩⟩
 ·simp [eo,bo]
 ·have hlt':i<(keep.length:Int):=Nw hlt;simp only at b0 b1 b2 b3 |-;have hib:=hP.isb _ (aH (0:Int) b0 hlt');obtain ⟨l1,l2,l3,l4,l5,l6⟩:=bW hib;obtain ⟨o1,o2⟩:=F7 hP.chk hib;have hle:=hP.le i.toNat (by omega);have hlg:=hP.lg i.toNat (by omega);have hul:=ka to hP i.toNat (by omega);have hE0:=cf pinned hP.pre i.toNat (by omega);have hE1:bo pinned keep long (i.toNat+1)=fg pinned keep long i.toNat+long.getD i.toNat 0:=rfl
  have hwl:w.length=a.length:=by
   rw [b3,NE,N0];omega
  rw [bz (0:Int) b0 hlt',OB,show (i+1).toNat=i.toNat+1 by omega] at b2;have hup:eo a keep to pinned long (i.toNat+1)=eo a keep to pinned long i.toNat++(qx pinned keep long i.toNat++gS a keep to (keep.getD i.toNat 0)):=rfl;have hpw:gS a keep to (keep.getD i.toNat 0)=a.getD (keep.getD i.toNat 0).toNat 0::((bH a (keep.getD i.toNat 0)).map (jX keep to)++gI a (keep.getD i.toNat 0)):=rfl;have hgw:(qx pinned keep long i.toNat).length=(fg pinned keep long i.toNat - bo pinned keep long i.toNat).toNat:=by simp [qx]
  have hgd:qx pinned keep long i.toNat=List.replicate (fg pinned keep long i.toNat - bo pinned keep long i.toNat).toNat 0:=rfl;have howd:=Ev hib;rw [htg i.toNat (by omega),o1,o2,show (i+1).toNat=i.toNat+1 by omega,hup,hpw];clear hup hpw o1 o2 hib;generalize keep.getD i.toNat 0=at_ at *;have hfst:(eG a at_).1=((bH a at_).length:Int):=l1.symm;have hsnd:(eG a at_).2.1=((gI a at_).length:Int):=l2.symm;rw [hfst,hsnd] at hlg howd l4;generalize bH a at_=rs at *;generalize gI a at_=bd at *;rw [hlg] at hle hE1 |-;rw [hE1];generalize hS:eo a keep to pinned long i.toNat=S at *;generalize qx pinned keep long i.toNat=G at *;generalize fg pinned keep long i.toNat=t at *;generalize bo pinned keep long i.toNat=e at *
  have hmin:min (a.drop at_.toNat).length ((t+1+(rs.length:Int)+(bd.length:Int)).toNat - t.toNat)=(1+(rs.length:Int)+(bd.length:Int)).toNat:=by
   rw [NY];omega
  simp only [am]
  refine ⟨b0,hlt',trivial,b0,by omega,by omega,b0,by omega,by omega,by omega,by omega,by omega,by omega,by omega,by omega,by omega,by omega,by omega,
   ⟨by omega,by omega,trivial,by omega,rfl,?_⟩,fun ⟨w',⟨p1,p2⟩,k⟩ ⟨c0,c1,c2,c3,c4,c5⟩=>⟨fun hk=>?_,fun hk=>?_⟩⟩
  ·rw [hmin,howd]
   have ht1:w.take t.toNat=S++G:=by
    rw [b3,PJ,NP (by omega),List.take_replicate,hgd];congr 2;omega
   have ht2:w.drop (t.toNat+(1+(rs.length:Int)+(bd.length:Int)).toNat)=List.replicate ((a.length:Int) - (t+(1+(rs.length:Int)+(bd.length:Int)))).toNat 0:=by
    rw [b3,Ph,N9 (by omega),Oa,List.drop_replicate];congr 1;omega
   rw [ht1,ht2];simp [List.append_assoc]
  ·have hk:k<(rs.length:Int):=Nw hk;simp only at c0 c1 c2 c3 c4 c5 |-;rw [bz (0:Int) c0 hk] at c4 c5;have hsn:=bx (0:Int) c0 hk;rw [hsn,Ot];generalize rs.getD k.toNat 0=x at *
   have hA:(S++(G++a.getD at_.toNat 0::(rs.take k.toNat).map (jX keep to))).length=p1+(1+k).toNat:=by
    simp only [NE,NC,Oh,NN];omega
   have hw':w'.length=a.length:=by
    rw [c5];simp only [NE,NC,Oh,NN,NY,N0];omega
   rw [Oq] at c5;have hget:w'.getD (p1+(1+k).toNat) 0=x:=by rw [c5]; exact Lo hA.symm
   have hset:∀ y,w'.set (p1+(1+k).toNat) y=(S++(G++a.getD at_.toNat 0::(rs.take k.toNat).map (jX keep to)))++y::(rs.drop (k+1).toNat++(bd++List.replicate ((a.length:Int) - (t+(1+(rs.length:Int)+(bd.length:Int)))).toNat 0)):=fun y=>by
    rw [c5]; exact oD y hA.symm
   rw [hget,hset,JA hP.rs hk0];have hg1:eV keep to (x::rs.drop (k+1).toNat)=((kJ keep to x).isSome&&eV keep to (rs.drop (k+1).toNat)):=rfl;rw [hg1] at c4;refine ⟨by omega,by omega,by omega,by omega,fun hn=>?_,fun hn=>⟨by omega,by omega,by omega,by omega,by omega,⟨by omega,by omega,c2,c3,?_,?_⟩,by omega⟩⟩
   ·have hn:(kJ keep to x).isSome=false:=by simpa using hn
    rw [hn,Py] at c4;rw [<- c4,Py] at b2;rw [if_neg (by rw [<- b2]; simp)];exact ⟨rfl,rfl,rfl,trivial⟩
   ·have hn:(kJ keep to x).isSome=true:=by simpa using hn
    rw [hn,OU] at c4;exact c4
   ·have hm:[x].map (jX keep to)=[(kJ keep to x).getD 0]:=rfl;rw [hm];simp [List.append_assoc]
  ·have hk:¬ k<(rs.length:Int):=Nx hk;simp only at c0 c1 c2 c3 c4 c5 |-;rw [cq hk] at c4 c5;rw [cn hk] at c5;have hg0:eV keep to []=true:=rfl;rw [hg0] at c4;rw [<- c4,OU] at b2;refine ⟨by omega,⟨by omega,by omega,b2,?_⟩,by omega⟩;rw [c5];simp [List.append_assoc]
 ·have hge:¬ i<(keep.length:Int):=Nx hge;simp only at b0 b1 b2 b3 |-;rw [cq hge,P8] at b2;rw [if_pos b2.symm];rw [show i.toNat=keep.length by omega] at b3;have hul:=ka to hP keep.length (NR _);have hE0:=cf pinned hP.pre keep.length (NR _);have hen:=hP.en
  have hwl:w.length=a.length:=by
   rw [b3,NE,N0];omega
  have hW:lI a keep to pinned long g=g.foldl jd w:=by
   rw [b3];rfl
  rw [hW];refine ⟨trivial,⟨by omega,by omega,trivial,rfl⟩,fun ⟨w',j⟩ ⟨d0,d1,d2,d3⟩=>⟨fun hj=>?_,fun hj=>?_⟩⟩
  ·have hj:j<(g.length:Int):=Nw hj;simp only at d0 d1 d2 d3 |-;have hr:=hgi _ (aH ((0,0):cR) d0 hj);have hsn:=bx ((0,0):cR) d0 hj;rw [hsn,Qh,<- d3];generalize g.getD j.toNat (0,0)=r at *
   have hh:af (0,r.2 - 1,0,true)=0:=by
    simp [af,aa];omega
   rw [if_pos hh,O7];simp only [am];exact ⟨d0,hj,by omega,by omega,trivial,hr.1,by omega,by omega,by first | trivial | rfl,by omega,⟨by omega,by omega,d2,rfl⟩,by omega⟩
  ·have hj:¬ j<(g.length:Int):=Nx hj;simp only at d3 |-;rw [cn hj] at d3;exact ⟨d3,trivial,trivial,trivial⟩
theorem Jn:IO.ok Tryz.prog 219:=aF (ann:=Kq) (ae Hq (ae mR (ae BW (ae iE ap)))) Tryz.func219 (by kernel_rfl) Gj
end
section
theorem Ib {a:List Int} {at_ k:Int} (h0:0<=k) (h1:k<(gI a at_).length) (l2:((gI a at_).length:Int)=(eG a at_).2.1) (l3:0<=at_) (l5:0<=(eG a at_).1) :
  a.getD (at_+1+(eG a at_).1+k).toNat 0=(gI a at_).getD k.toNat 0:=by
 rw [l2] at h1;unfold gI iy;simp only;generalize (eG a at_).1=r at *;generalize (eG a at_).2.1=b at *;rw [List.getD_eq_getElem?_getD (l:=a),List.getD_eq_getElem?_getD,List.getElem?_drop,List.getElem?_take,if_pos (by omega)];congr 2;omega
def Bi (a keep pinned:List Int):List Int×Bool :=
 if (keep.all fun at_=>eV keep (aA keep (keep.map (df (ac a).1)) pinned) (bH a at_))=true then
  (lI a keep (aA keep (keep.map (df (ac a).1)) pinned) pinned (keep.map (df (ac a).1)) (b8 a.length keep (keep.map (df (ac a).1)) pinned),true)
 else ([],false)
end
section
def y9:Go.Shelf.Ren:=⟨fun | 189=>33 | 125=>105 | 257=>104 | 128=>183 | 129=>184 | 294=>174 | 295=>175 | 296=>176 | 297=>177 | 298=>178 | 299=>179 | 216=>180 | 300=>181 | 301=>182 | 328=>230 | 329=>231 | 330=>232 | 331=>233 | 332=>234 | 215=>235 | 343=>257 | n=>n,fun | 28=>31 | 3=>3 | 46=>182 | 0=>0 | 51=>267 | 53=>45 | 4=>4 | 183=>260 | 182=>259 | 131=>98 | 5=>5 | 9=>9 | 218=>306 | 222=>110 | 228=>330 | 229=>331 | n=>n,fun | n=>n⟩
theorem Cf:Go.Proofs.Lays.n189 Tryz.prog y9 where
 mixed:=by kernel_rfl
 f125:=Tryz.func105.trans (congrArg some (by kernel_rfl))
 f128:=Tryz.func183.trans (congrArg some (by kernel_rfl))
 f129:=Tryz.func184.trans (congrArg some (by kernel_rfl))
 f189:=Tryz.func33.trans (congrArg some (by kernel_rfl))
 f215:=Tryz.func235.trans (congrArg some (by kernel_rfl))
 f216:=Tryz.func180.trans (congrArg some (by kernel_rfl))
 f257:=Tryz.func104.trans (congrArg some (by kernel_rfl))
 f294:=Tryz.func174.trans (congrArg some (by kernel_rfl))
 f295:=Tryz.func175.trans (congrArg some (by kernel_rfl))
 f296:=Tryz.func176.trans (congrArg some (by kernel_rfl))
 f297:=Tryz.func177.trans (congrArg some (by kernel_rfl))
 f298:=Tryz.func178.trans (congrArg some (by kernel_rfl))
 f299:=Tryz.func179.trans (congrArg some (by kernel_rfl))
 f300:=Tryz.func181.trans (congrArg some (by kernel_rfl))
 f301:=Tryz.func182.trans (congrArg some (by kernel_rfl))
 f328:=Tryz.func230.trans (congrArg some (by kernel_rfl))
 f329:=Tryz.func231.trans (congrArg some (by kernel_rfl))
 f330:=Tryz.func232.trans (congrArg some (by kernel_rfl))
 f331:=Tryz.func233.trans (congrArg some (by kernel_rfl))
 f332:=Tryz.func234.trans (congrArg some (by kernel_rfl))
 f343:=Tryz.func257.trans (congrArg some (by kernel_rfl))
 t0:=PV
 a0:=Tryz.isAgg0
 z0:=Tryz.sizeOf0
 v0:=P4
 t3:=PU
 a3:=Tryz.isAgg3
 z3:=Tryz.sizeOf3
 v3:=P3
 t4:=Pw
 a4:=Tryz.isAgg4
 z4:=Tryz.sizeOf4
 v4:=P2
 t5:=Tryz.underlying5
 a5:=Tryz.isAgg5
 z5:=Tryz.sizeOf5
 v5:=Tryz.zeroValue5
 t9:=Tryz.underlying9
 a9:=Tryz.isAgg9
 z9:=Tryz.sizeOf9
 v9:=Tryz.zeroValue9
 t28:=Tryz.underlying31
 a28:=Tryz.isAgg31
 z28:=Tryz.sizeOf31
 v28:=Tryz.zeroValue31
 t46:=Qb
 a46:=Tryz.isAgg182
 z46:=Tryz.sizeOf182
 v46:=Qe
 t51:=Qa
 a51:=Tryz.isAgg267
 z51:=Tryz.sizeOf267
 v51:=Qd
 t53:=Qf
 a53:=Tryz.isAgg45
 z53:=Tryz.sizeOf45
 v53:=Tryz.zeroValue45
 t131:=Tryz.underlying98
 a131:=Tryz.isAgg98
 z131:=Tryz.sizeOf98
 v131:=Tryz.zeroValue98
 t182:=Tryz.underlying259
 a182:=Tryz.isAgg259
 z182:=Tryz.sizeOf259
 v182:=Tryz.zeroValue259
 t183:=Tryz.underlying260
 a183:=Tryz.isAgg260
 z183:=Tryz.sizeOf260
 v183:=Tryz.zeroValue260
 t218:=Tryz.underlying306
 a218:=Tryz.isAgg306
 z218:=Tryz.sizeOf306
 v218:=Tryz.zeroValue306
 t222:=Tryz.underlying110
 a222:=Tryz.isAgg110
 z222:=Tryz.sizeOf110
 v222:=Tryz.zeroValue110
 t228:=Tryz.underlying330
 a228:=Tryz.isAgg330
 z228:=Tryz.sizeOf330
 v228:=Tryz.zeroValue330
 t229:=Tryz.underlying331
 a229:=Tryz.isAgg331
 z229:=Tryz.sizeOf331
 v229:=Tryz.zeroValue331
def sf:Go.Shelf.Ren:=⟨fun | 20=>95 | n=>n,fun | 22=>31 | 3=>3 | 4=>4 | 0=>0 | n=>n,fun | n=>n⟩
theorem rT:Go.Proofs.Lays2.n20 Tryz.prog sf where
 mixed:=by kernel_rfl
 f20:=Tryz.func95.trans (congrArg some (by kernel_rfl))
 t0:=PV
 a0:=Tryz.isAgg0
 z0:=Tryz.sizeOf0
 v0:=P4
 t3:=PU
 a3:=Tryz.isAgg3
 z3:=Tryz.sizeOf3
 v3:=P3
 t4:=Pw
 a4:=Tryz.isAgg4
 z4:=Tryz.sizeOf4
 v4:=P2
 t22:=Tryz.underlying31
 a22:=Tryz.isAgg31
 z22:=Tryz.sizeOf31
 v22:=Tryz.zeroValue31
 i3:=by kernel_rfl
theorem yI {p:PH}:∀ {xs:List Int} {l:List Value},aK (ty_I.holds p) xs l->l=xs.map (Value.int .i64)/\∀ x∈xs,am .i64 x
 | [],l,h=>⟨h,by simp⟩
 | x::xs,l,⟨c1,c2,e,h1,h2⟩=>by
  obtain ⟨e2,h3⟩:=yI h2;obtain ⟨e1,h4⟩:=h1;subst e1 e2 e;refine ⟨rfl,fun y hy=>?_⟩;rcases NG.1 hy with rfl | hy
  ·exact h4
  ·exact h3 y hy
theorem qg {p:PH}:∀ {xs:List Int},(∀ x∈xs,am .i64 x)->aK (ty_I.holds p) xs (xs.map (Value.int .i64))
 | [],_=>rfl
 | x::xs,h=>⟨[.int .i64 x],xs.map (Value.int .i64),rfl,⟨rfl,h x (by simp)⟩,qg (fun y hy=>h y (by simp [hy]))⟩
def d8 (xs:List Int):List Int:=xs.mergeSort fun x y=>decide (x<=y)
def AM:RowFn:={ e:=3,T:=ty_I,Ts:=[],out:=false,pre:=fun _ _ _=>True,F:=fun xs _ _=>d8 xs }
theorem tY:AM.ok Tryz.prog 33:=by
 intro p w v (xs:List Int) l v2 (ys:List Int) l2 vs x _ _ hA hown hl hbig hp _ _ _ hargs _;have hvs:vs=[]:=hargs;subst hvs;obtain ⟨el,hin⟩:=yI hl;have hown':w.ownsRow 0 3 1 v xs.length l:=hown;have h8:xs.length * 8<=aL:=hbig;have hlen:(d8 xs).length=xs.length:=List.length_mergeSort _;rcases hown'.2 with ⟨rfl,h0⟩ | ⟨g,cap,cur,rfl,_,hb,h1,h2,h3,h4⟩
 ·have hx:xs=[]:=NQ h0;subst hx;refine (Any.slices_Sort_int_none Cf none 0 w).mono ?_;rintro e w' ⟨rfl,rfl⟩;have e0:AM.F ([]:List Int) ys x=([]:List Int):=by show d8 []=[]; simp [d8]
  rw [e0];exact ⟨_,l,rfl,fun _=>rfl,World.grownBy.refl _ _,hown,hl,hbig,fun b h=>.inl h⟩
 ·have hg:g<w.heap.size:=(Array.getElem?_eq_some_iff.1 hb).1;refine (Any.slices_Sort_int Cf g 0 cap xs w (holds_of_blockI hb (by rw [O6] at h4; rw [h4,el])) hg (by simp only [aL] at h8; omega)).mono ?_;rintro e w' ⟨rfl,n,os,rfl⟩;refine ⟨_,(d8 xs).map (Value.int .i64),rfl,fun _=>rfl,grownBy_sortedI _,?_,qg (fun y hy=>hin y (List.mem_mergeSort.1 hy)),?_,fun b h=>.inl h⟩
  ·have:=ownsRow_sortedI (n:=n) (os:=os) (ss:=xs) (ts:=d8 xs) hlen (Of _) hb h1 h2 h3;show World.ownsRow _ 0 3 1 _ (d8 xs).length _;rw [hlen];exact this
  ·show (d8 xs).length * 8<=aL;rw [hlen];exact h8
theorem j9 (xs:List Int):(Lib.compact xs).length<=xs.length:=by
 unfold Lib.compact Lib.compactUpTo;rw [Oh];refine Oe (PS _ _) ?_;simp
theorem r5 (xs:List Int) (y:Int) (hy:y∈Lib.compact xs):y∈xs:=by
 unfold Lib.compact Lib.compactUpTo at hy;obtain ⟨j,hj,rfl⟩:=NZ.1 hy
 have hj2:j<xs.length:=by
  have:=(OC.1 hj).1;simpa using this
 simp [hj2]
def fC (xs:List Int):List Int:=Lib.compact xs
def Bd:RowFn:={ e:=3,T:=ty_I,Ts:=[],out:=true,pre:=fun _ _ _=>True,F:=fun xs _ _=>fC xs }
theorem rR:Bd.ok Tryz.prog 95:=by
 intro p w v (xs:List Int) l v2 (ys:List Int) l2 vs x _ _ hA hown hl hbig hp _ _ _ hargs _;have hvs:vs=[]:=hargs;subst hvs;obtain ⟨el,hin⟩:=yI hl;have hown':w.ownsRow 0 3 1 v xs.length l:=hown;have h8:xs.length * 8<=aL:=hbig;have hle:(Lib.compact xs).length<=xs.length:=j9 xs;rcases hown'.2 with ⟨rfl,h0⟩ | ⟨g,cap,cur,rfl,_,hb,h1,h2,h3,h4⟩
 ·have hx:xs=[]:=NQ h0;subst hx;refine (Any.slices_Compact_int_empty rT none 0 w).mono ?_;rintro e w' ⟨rfl,rfl⟩;exact ⟨_,l,rfl,fun _=>rfl,World.grownBy.refl _ _,hown,hl,by show (Lib.compact ([]:List Int)).length * 8<=aL; simp [Lib.compact,Lib.compactUpTo],fun b h=>.inl h⟩
 ·have hg:g<w.heap.size:=(Array.getElem?_eq_some_iff.1 hb).1;have hmem:∀ y∈Lib.compact xs,am .i64 y:=fun y hy=>hin y (r5 xs y hy)
  refine (Any.slices_Compact_int rT g 0 cap xs w (holds_of_blockI hb (by rw [O6] at h4; rw [h4,el])) (by simp only [aL] at h8; omega) h1).mono ?_;rintro e w' ⟨rfl,q,rfl⟩;refine ⟨_,(Lib.compact xs).map (Value.int .i64),rfl,fun h=>(by cases h),?_,?_,qg hmem,?_,fun b h=>.inl h⟩
  ·have:=grownBy_sortedI (w:=w) (g:=g) (n:=q) (os:=#[]) (Lib.compact xs++List.replicate (xs.length - (Lib.compact xs).length) 0).toArray;rw [Sort.grow_empty] at this;exact this
  ·have hh:=heap_sortedI (w:=w) (g:=g) (n:=q) (os:=#[]) (Lib.compact xs++List.replicate (xs.length - (Lib.compact xs).length) 0).toArray hb;rw [Sort.grow_empty] at hh
   have hrow:World.ownsRow (Sort.putRow (Value.int .i64) (Sort.ahead w q) g 0 (Lib.compact xs++List.replicate (xs.length - (Lib.compact xs).length) 0).toArray) 0 3 1
     (.slice (some ⟨g,0,none⟩) (Lib.compact xs).length cap) (Lib.compact xs).length ((Lib.compact xs).map (Value.int .i64)):=by
    refine ⟨by simp,.inr ⟨g,cap,_,rfl,Of _,hh,Oe hle h1,h2,by simp [Sort.putCells,h3],?_⟩⟩;have ht:=take_putCellsI cur (Lib.compact xs++List.replicate (xs.length - (Lib.compact xs).length) 0) (by simp; omega);have ht2:=congrArg (List.take (Lib.compact xs).length) ht;rw [O4,OV (by simp)] at ht2;rw [O6,ht2];simp
   exact hrow
  ·show (Lib.compact xs).length * 8<=aL;omega
end
section
def db (v n:Int):Bool:=decide (-1<=v)&&decide (v<n)
def aE (r:List Int) (n:Int):Int:=if n<0\/256<n then 4 else if 32<r.length then 2 else if (r.any fun v=>!db v n)=true then 4 else 0
def bh (r:List Int) (n:Int):List Int×Int :=
 if aE r n≠0 then ([],aE r n) else (fC (d8 (r.filter fun v=>!decide (v<0))),0)
def m5 (to:List Int) (v:Int):Int:=if 0<=v then to.getD v.toNat 0 else v
def bf (r:List Int) (n:Int) (to:List Int):List Int×Int :=
 if aE r n≠0 then ([],aE r n) else if (to.length:Int)≠n then ([],3) else if (to.any fun v=>!db v n)=true then ([],4) else (r.map (m5 to),0)
theorem sz {r:List Int} {n v:Int} (h:(r.any fun v=>!db v n)=false) (hv:v∈r):-1<=v/\v<n:=by
 have:=PR.1 h v hv;simpa [db] using this
theorem kg {r:List Int} {n:Int} (h:aE r n=0):(r.any fun v=>!db v n)=false:=by
 unfold aE at h;cases hr:r.any fun v=>!db v n
 ·rfl
 ·rw [hr] at h;simp only [if_true] at h;split at h
  ·omega
  ·split at h <;> omega
theorem iP {α:Type} (f:α->Bool):∀ (l:List α) (k:Int),0<=k->(ag f k l=-1/\l.filter (fun x=>!f x)=l) \/
  ∃ j:Nat,ag f k l=k+j/\j<l.length/\(l.take (j+1)).filter (fun x=>!f x)=l.take j
 | [],k,_=>.inl ⟨rfl,rfl⟩
 | x::l,k,hk=>by
  simp only [ag];cases hx:f x
  ·rw [if_neg (by simp)];rcases iP f l (k+1) (by omega) with ⟨h1,h2⟩ | ⟨j,h1,h2,h3⟩
   ·exact .inl ⟨h1,by rw [Ov (by simp [hx]),h2]⟩
   ·exact .inr ⟨j+1,by omega,by simp; omega,by rw [OR,Ov (by simp [hx]),h3,OR]⟩
  ·rw [if_pos rfl];exact .inr ⟨0,by omega,by simp,by simp [hx]⟩
theorem Kg {α:Type} (d:α) {p:α->Bool} {xs row:List α} {i j:Nat} (hij:i<j) (hj:j<xs.length) (hl:row.length=xs.length) (ht:row.take i=(xs.take j).filter p) (hd:row.drop j=xs.drop j) :
  (p (row.getD j d)=true->(row.set i (row.getD j d)).take (i+1)=(xs.take (j+1)).filter p/\(row.set i (row.getD j d)).drop (j+1)=xs.drop (j+1)) /\
  (p (row.getD j d)=false->row.take i=(xs.take (j+1)).filter p/\row.drop (j+1)=xs.drop (j+1)):=by
 have he:row.getD j d=xs.getD j d:=by
  have:=congrArg (fun l=>l.getD 0 d) hd;simpa [List.getD,List.getElem?_drop] using this
 have h1:row.drop (j+1)=xs.drop (j+1):=by
  have:=congrArg (List.drop 1) hd;simpa [OT,Nat.add_comm] using this
 have hx:xs.take (j+1)=xs.take j++[xs.getD j d]:=by
  rw [Ol hj];simp [List.getD,hj]
 rw [he,hx,PO];refine ⟨fun hp=>⟨?_,?_⟩,fun hp=>⟨?_,h1⟩⟩
 ·rw [List.take_set,<- ht,Ov hp,List.filter_nil];have hi:i<row.length:=by omega
  rw [Ol hi,Pj _ _ (by simp; omega)];simp [OV (Nat.le_of_lt hi)]
 ·rw [List.drop_set_of_lt (by omega),h1]
 ·rw [ht,OO (by rw [hp]; simp)];simp
def yC:Spec:={ Ts:=[.arr ty_I],Rs:=[.own 3 ty_I],pre:=fun _=>True,F:=fun (x:List Int)=>x }
def oX:Prop :=
  ∀ (x:List Int),(x.length * 8<=aL/\∀ (x_1:Int),x_1∈x->am .i64 x_1)->True->(x=([]:List Int)->([]:List Int)=x/\True)/\(True->(0+x.length) * 8<=aL/\([]:List Int)++x=x/\True)
theorem vw:oX:=by
 unfold oX;intro x ⟨hb,_⟩ _;simp [hb]
theorem bZ:yC.ok Tryz.prog 36:=aF (ann:=cr) ap Tryz.func36 (by kernel_rfl) vw
def GG:Spec:={ Ts:=[ty_I,ty_I],Rs:=[.dat .bool],pre:=fun _=>True,F:=fun ((v,n):Int×Int)=>db v n }
def wJ:Prop :=
  ∀ (x:Int×Int),am .i64 x.1/\am .i64 x.2->True->(decide ((-1)<=x.1)&&decide (x.1<x.2))=db x.1 x.2/\True
theorem Dc:wJ:=by
 unfold wJ;intro ⟨v,n⟩ _ _;simp only [db]
 grind
theorem xh:GG.ok Tryz.prog 209:=aF (ann:=cr) ap Tryz.func209 (by kernel_rfl) Dc
def GT:Spec:={ Ts:=[ty_I,.ref ty_I],Rs:=[.dat .bool],pre:=fun _=>True,F:=fun ((v,n):Int×Int)=>!db v n }
def wW:Prop :=
  ∀ (x:Int×Int),am .i64 x.1/\am .i64 x.2->True->True/\(!db x.1 x.2)=!db x.1 x.2/\True
theorem Dp:wW:=by
 unfold wW;intro ⟨v,n⟩ _ _;simp
theorem Hp:GT.ok Tryz.prog 208:=aF (ann:=cr) (ae xh ap) Tryz.func208 (by kernel_rfl) Dp
def GS:Spec:={ Ts:=[ty_I,.ref ty_I],Rs:=[.dat .bool],pre:=fun _=>True,F:=fun ((v,n):Int×Int)=>!db v n }
def wV:Prop :=
  ∀ (x:Int×Int),am .i64 x.1/\am .i64 x.2->True->True/\(!db x.1 x.2)=!db x.1 x.2/\True
theorem Do:wV:=by
 unfold wV;intro ⟨v,n⟩ _ _;simp
theorem Ho:GS.ok Tryz.prog 220:=aF (ann:=cr) (ae xh ap) Tryz.func220 (by kernel_rfl) Do
def GR:Spec:={ Ts:=[ty_I],Rs:=[.dat .bool],pre:=fun _=>True,F:=fun (v:Int)=>decide (v<0) }
def wU:Prop :=
  ∀ (x:Int),am .i64 x->True->decide (x<0)=decide (x<0)/\True
theorem Dn:wU:=by
 unfold wU;intro v _ _;simp
theorem Hn:GR.ok Tryz.prog 251:=aF (ann:=cr) ap Tryz.func251 (by kernel_rfl) Dn
def yv:Spec:={ Ts:=[.arr ty_I,ty_I],Rs:=[.dat ty_I],pre:=fun _=>True,F:=fun ((r,n):List Int×Int)=>aE r n }
def oQ:Prop :=
  ∀ (x:List Int×Int),(x.1.length * 8<=aL/\∀ (x_1:Int),x_1∈x.1->am .i64 x_1)/\am .i64 x.2->True->((decide (x.2<0)||decide (256<x.2))=true->4=aE x.1 x.2/\True)/\((decide (x.2<0)||decide (256<x.2))=false->(decide (32<(x.1.length:Int))=true->2=aE x.1 x.2/\True)/\(decide (32<(x.1.length:Int))=false->(∀ (s:Int),s∈x.1->(fun (_:Int)=>True,fun (x_1:Int)=>!db x_1 x.2).1 s)/\((x.1.any fun (x_1:Int)=>!db x_1 x.2)=true->4=aE x.1 x.2/\True)/\((x.1.any fun (x_1:Int)=>!db x_1 x.2)=false->0=aE x.1 x.2/\True)))
theorem vo:oQ:=by
 unfold oQ;intro ⟨r,n⟩ ⟨⟨hb,_⟩,hn⟩ _;simp only [aE]
 grind
theorem lf:yv.ok Tryz.prog 149:=aF (ann:=cr) (ae yZ (ae Hp ap)) Tryz.func149 (by kernel_rfl) vo
def zW:Nat->Option LoopGen
 | 3000250=>some d9
 | 3000251=>some d9
 | 25100000005=>some { rd:=[.own 0 3 ty_I],wr:=[0],A:=fun (xs:List Int)=>{ cs:=[.own 0 3 ty_I,.dat 5 ty_I,.dat 6 ty_I],inv:=fun ((row,i,j):List Int×Int×Int)=>0<=i/\i<j/\j<=xs.length/\row.length=xs.length/\row.take i.toNat=(xs.take j.toNat).filter (fun v=>!decide (v<0))/\row.drop j.toNat=xs.drop j.toNat,mu:=fun ((_,_,j):List Int×Int×Int)=>(xs.length - j).toNat } }
 | _=>none
def yu:Spec:={ Ts:=[.arr ty_I,ty_I],Rs:=[.own 3 ty_I,.dat ty_I],pre:=fun _=>True,F:=fun ((r,n):List Int×Int)=>bh r n }
def oP:Prop :=
  ∀ (x:List Int×Int),(x.1.length * 8<=aL/\∀ (x_1:Int),x_1∈x.1->am .i64 x_1)/\am .i64 x.2->True->True/\(decide (aE x.1 x.2≠0)=true->([]:List Int)=(bh x.1 x.2).1/\aE x.1 x.2=(bh x.1 x.2).2/\True)/\(decide (aE x.1 x.2≠0)=false->True/\∀ (_:Array Value),(∀ (s:Int),s∈x.1->(fun (_:Int)=>True,fun (x:Int)=>decide (x<0)).1 s)/\(decide (ag (fun (x:Int)=>decide (x<0)) 0 x.1=(-1))=true->True/\True/\fC (d8 x.1)=(bh x.1 x.2).1/\0=(bh x.1 x.2).2/\True)/\(decide (ag (fun (x:Int)=>decide (x<0)) 0 x.1=(-1))=false->am .i64 (ag (fun (x:Int)=>decide (x<0)) 0 x.1+1)/\(0<=ag (fun (x:Int)=>decide (x<0)) 0 x.1/\ag (fun (x:Int)=>decide (x<0)) 0 x.1<ag (fun (x:Int)=>decide (x<0)) 0 x.1+1/\ag (fun (x:Int)=>decide (x<0)) 0 x.1+1<=(x.1.length:Int)/\x.1.length=x.1.length/\List.take (ag (fun (x:Int)=>decide (x<0)) 0 x.1).toNat x.1=List.filter (fun (v:Int)=>!decide (v<0)) (List.take (ag (fun (x:Int)=>decide (x<0)) 0 x.1+1).toNat x.1)/\List.drop (ag (fun (x:Int)=>decide (x<0)) 0 x.1+1).toNat x.1=List.drop (ag (fun (x:Int)=>decide (x<0)) 0 x.1+1).toNat x.1)/\∀ (x_1:List Int×Int×Int),0<=x_1.2.1/\x_1.2.1<x_1.2.2/\x_1.2.2<=(x.1.length:Int)/\x_1.1.length=x.1.length/\List.take x_1.2.1.toNat x_1.1=List.filter (fun (v:Int)=>!decide (v<0)) (List.take x_1.2.2.toNat x.1)/\List.drop x_1.2.2.toNat x_1.1=List.drop x_1.2.2.toNat x.1->(decide (x_1.2.2<(x_1.1.length:Int))=true->0<=x_1.2.2/\x_1.2.2<(x_1.1.length:Int)/\x_1.2.2.toNat<x_1.1.length/\∀ (_:Array Value),((!decide (x_1.1.getD x_1.2.2.toNat (0:Int)<0))=true->0<=x_1.2.1/\x_1.2.1<(x_1.1.length:Int)/\x_1.2.1.toNat<x_1.1.length/\am .i64 (x_1.2.1+1)/\am .i64 (x_1.2.2+1)/\(0<=x_1.2.1+1/\x_1.2.1+1<x_1.2.2+1/\x_1.2.2+1<=(x.1.length:Int)/\(x_1.1.set x_1.2.1.toNat (x_1.1.getD x_1.2.2.toNat 0)).length=x.1.length/\List.take (x_1.2.1+1).toNat (x_1.1.set x_1.2.1.toNat (x_1.1.getD x_1.2.2.toNat 0))=List.filter (fun (v:Int)=>!decide (v<0)) (List.take (x_1.2.2+1).toNat x.1)/\List.drop (x_1.2.2+1).toNat (x_1.1.set x_1.2.1.toNat (x_1.1.getD x_1.2.2.toNat 0))=List.drop (x_1.2.2+1).toNat x.1)/\((x.1.length:Int) - (x_1.2.2+1)).toNat<((x.1.length:Int) - x_1.2.2).toNat)/\((!decide (x_1.1.getD x_1.2.2.toNat (0:Int)<0))=false->am .i64 (x_1.2.2+1)/\(0<=x_1.2.1/\x_1.2.1<x_1.2.2+1/\x_1.2.2+1<=(x.1.length:Int)/\x_1.1.length=x.1.length/\List.take x_1.2.1.toNat x_1.1=List.filter (fun (v:Int)=>!decide (v<0)) (List.take (x_1.2.2+1).toNat x.1)/\List.drop (x_1.2.2+1).toNat x_1.1=List.drop (x_1.2.2+1).toNat x.1)/\((x.1.length:Int) - (x_1.2.2+1)).toNat<((x.1.length:Int) - x_1.2.2).toNat))/\(decide (x_1.2.2<(x_1.1.length:Int))=false->0<=x_1.2.1/\x_1.2.1<=(x_1.1.length:Int)/\x_1.2.1.toNat+(x_1.1.length - x_1.2.1.toNat)<=x_1.1.length/\0<=x_1.2.1/\x_1.2.1<=(↑(List.take x_1.2.1.toNat x_1.1++(List.replicate (x_1.1.length - x_1.2.1.toNat) (0:Int)++List.drop (x_1.2.1.toNat+(x_1.1.length - x_1.2.1.toNat)) x_1.1)).length:Int)/\True/\True/\fC (d8 (List.take x_1.2.1.toNat (List.take x_1.2.1.toNat x_1.1++(List.replicate (x_1.1.length - x_1.2.1.toNat) (0:Int)++List.drop (x_1.2.1.toNat+(x_1.1.length - x_1.2.1.toNat)) x_1.1))))=(bh x.1 x.2).1/\0=(bh x.1 x.2).2/\True)))
theorem vn:oP:=by
 unfold oP;intro ⟨r,n⟩ ⟨⟨hb,_⟩,_⟩ _;unfold aL at hb;simp only at hb |-;refine ⟨trivial,fun h=>?_,fun h=>⟨trivial,fun _=>⟨fun _ _=>trivial,fun h2=>?_,fun h2=>?_⟩⟩⟩
 ·simp only [bh];rw [if_pos (Nw h)];exact ⟨rfl,rfl,trivial⟩
 ·have h2:=Nw h2;refine ⟨trivial,trivial,?_⟩;simp only [bh];rw [if_neg (Nx h)];rcases iP (fun x:Int=>decide (x<0)) r 0 (by omega) with ⟨_,h3⟩ | ⟨j,h3,_⟩
  ·rw [h3];exact ⟨rfl,rfl,trivial⟩
  ·omega
 have h2:=Nx h2;rcases iP (fun x:Int=>decide (x<0)) r 0 (by omega) with ⟨h3,_⟩ | ⟨j,h3,h4,h5⟩
 ·exact absurd h3 h2
 rw [h3];refine ⟨by simp only [am]; omega,⟨by omega,by omega,by omega,trivial,?_,trivial⟩,fun ⟨row,i,j⟩ ⟨k0,k1,k2,k3,k4,k5⟩=>⟨fun hlt=>?_,fun hge=>?_⟩⟩
 ·rw [show (0+(j:Int)+1).toNat=j+1 by omega,show (0+(j:Int)).toNat=j by omega,h5]
 ·simp only at k0 k1 k2 k3 k4 k5 hlt |-;have hlt:=Nw hlt;have hs:=Kg (0:Int) (p:=fun v=>!decide (v<0)) (xs:=r) (row:=row) (i:=i.toNat) (j:=j.toNat) (by omega) (by omega) k3 k4 k5;refine ⟨by omega,by omega,by omega,fun _=>⟨fun hp=>?_,fun hp=>?_⟩⟩
  ·obtain ⟨q1,q2⟩:=hs.1 hp;refine ⟨by omega,by omega,by omega,by simp only [am]; omega,by simp only [am]; omega,⟨by omega,by omega,by omega,by simpa using k3,?_,?_⟩,by omega⟩
   ·rw [show (i+1).toNat=i.toNat+1 by omega,show (j+1).toNat=j.toNat+1 by omega];exact q1
   ·rw [show (j+1).toNat=j.toNat+1 by omega];exact q2
  ·obtain ⟨q1,q2⟩:=hs.2 hp;refine ⟨by simp only [am]; omega,⟨by omega,by omega,by omega,k3,?_,?_⟩,by omega⟩
   ·rw [show (j+1).toNat=j.toNat+1 by omega];exact q1
   ·rw [show (j+1).toNat=j.toNat+1 by omega];exact q2
 ·simp only at k0 k1 k2 k3 k4 k5 hge |-;have hge:=Nx hge;have hj:j.toNat=r.length:=by omega
  have e1:List.take i.toNat (List.take i.toNat row++(List.replicate (row.length - i.toNat) 0++List.drop (i.toNat+(row.length - i.toNat)) row))=List.take i.toNat row:=by
   rw [N6 (by simp; omega),O4,Nat.min_self]
  refine ⟨by omega,by omega,by omega,by omega,by simp; omega,trivial,trivial,?_⟩;rw [e1,k4,hj,NP (NR _)];simp only [bh];rw [if_neg (Nx h)];exact ⟨rfl,rfl,trivial⟩
theorem yW:yu.ok Tryz.prog 211:=aF (ann:=zW) (ae lf (ae bZ (ae Hn (ae BZ (kY tY (kY rR ap)))))) Tryz.func211 (by kernel_rfl) vn
def CX:Nat->Option LoopGen
 | 10=>some { rd:=[.dat 2 (.arr ty_I),.dat 0 (.arr ty_I)],wr:=[9,30],A:=fun ((to,r):List Int×List Int)=>{ cs:=[.own 9 3 ty_I,.same 30 9,.dat 32 ty_I],inv:=fun ((out,_,i):List Int×Unit×Int)=>0<=i/\i<=r.length/\(∀ v∈r,v<to.length)/\out=(r.take i.toNat).map (m5 to)++r.drop i.toNat,mu:=fun ((_,_,i):List Int×Unit×Int)=>(r.length - i).toNat } }
 | _=>none
def AN:Spec:={ Ts:=[.arr ty_I,ty_I,.arr ty_I],Rs:=[.own 3 ty_I,.dat ty_I],pre:=fun _=>True,F:=fun ((r,n,to):List Int×Int×List Int)=>bf r n to }
def rh:Prop :=
  ∀ (x:List Int×Int×List Int),((x.1.length * 8<=aL/\∀ (x_1:Int),x_1∈x.1->am .i64 x_1)/\am .i64 x.2.1/\x.2.2.length * 8<=aL/\∀ (x_1:Int),x_1∈x.2.2->am .i64 x_1)->True->True/\(decide (aE x.1 x.2.1≠0)=true->([]:List Int)=(bf x.1 x.2.1 x.2.2).1/\aE x.1 x.2.1=(bf x.1 x.2.1 x.2.2).2/\True)/\(decide (aE x.1 x.2.1≠0)=false->(decide ((x.2.2.length:Int)≠x.2.1)=true->([]:List Int)=(bf x.1 x.2.1 x.2.2).1/\3=(bf x.1 x.2.1 x.2.2).2/\True)/\(decide ((x.2.2.length:Int)≠x.2.1)=false->(∀ (s:Int),s∈x.2.2->(fun (_:Int)=>True,fun (x_1:Int)=>!db x_1 x.2.1).1 s)/\((x.2.2.any fun (x_1:Int)=>!db x_1 x.2.1)=true->([]:List Int)=(bf x.1 x.2.1 x.2.2).1/\4=(bf x.1 x.2.1 x.2.2).2/\True)/\((x.2.2.any fun (x_1:Int)=>!db x_1 x.2.1)=false->True/\((0:Int)<=0/\0<=(x.1.length:Int)/\(∀ (v:Int),v∈x.1->v<(x.2.2.length:Int))/\x.1=List.map (m5 x.2.2) (List.take (Int.toNat 0) x.1)++List.drop (Int.toNat 0) x.1)/\∀ (x_1:List Int×Unit×Int),0<=x_1.2.2/\x_1.2.2<=(x.1.length:Int)/\(∀ (v:Int),v∈x.1->v<(x.2.2.length:Int))/\x_1.1=List.map (m5 x.2.2) (List.take x_1.2.2.toNat x.1)++List.drop x_1.2.2.toNat x.1->(decide (x_1.2.2<(x.1.length:Int))=true->0<=x_1.2.2/\x_1.2.2<(x_1.1.length:Int)/\x_1.2.2.toNat<x_1.1.length/\(decide (0<=x_1.1.getD x_1.2.2.toNat 0)=true->0<=x_1.1.getD x_1.2.2.toNat 0/\x_1.1.getD x_1.2.2.toNat 0<(x.2.2.length:Int)/\0<=x_1.2.2/\x_1.2.2<(x_1.1.length:Int)/\x_1.2.2.toNat<x_1.1.length/\am .i64 (x_1.2.2+1)/\(0<=x_1.2.2+1/\x_1.2.2+1<=(x.1.length:Int)/\(∀ (v:Int),v∈x.1->v<(x.2.2.length:Int))/\x_1.1.set x_1.2.2.toNat (x.2.2.getD (x_1.1.getD x_1.2.2.toNat 0).toNat 0)=List.map (m5 x.2.2) (List.take (x_1.2.2+1).toNat x.1)++List.drop (x_1.2.2+1).toNat x.1)/\((x.1.length:Int) - (x_1.2.2+1)).toNat<((x.1.length:Int) - x_1.2.2).toNat)/\(decide (0<=x_1.1.getD x_1.2.2.toNat 0)=false->am .i64 (x_1.2.2+1)/\(0<=x_1.2.2+1/\x_1.2.2+1<=(x.1.length:Int)/\(∀ (v:Int),v∈x.1->v<(x.2.2.length:Int))/\x_1.1=List.map (m5 x.2.2) (List.take (x_1.2.2+1).toNat x.1)++List.drop (x_1.2.2+1).toNat x.1)/\((x.1.length:Int) - (x_1.2.2+1)).toNat<((x.1.length:Int) - x_1.2.2).toNat))/\(decide (x_1.2.2<(x.1.length:Int))=false->x_1.1=(bf x.1 x.2.1 x.2.2).1/\0=(bf x.1 x.2.1 x.2.2).2/\True))))
theorem xT:rh:=by
 unfold rh;intro ⟨r,n,to⟩ ⟨⟨hb,_⟩,_⟩ _;unfold aL at hb;simp only at hb |-;refine ⟨trivial,fun h=>?_,fun h=>⟨fun h2=>?_,fun h2=>⟨fun _ _=>trivial,fun h3=>?_,fun h3=>⟨trivial,?_,fun ⟨out,_,i⟩ ⟨k0,k1,k2,k3⟩=>?_⟩⟩⟩⟩
 ·simp only [bf];rw [if_pos (Nw h)];exact ⟨rfl,rfl,trivial⟩
 ·simp only [bf];rw [if_neg (Nx h),if_pos (Nw h2)];exact ⟨rfl,rfl,trivial⟩
 ·simp only [bf];rw [if_neg (Nx h),if_neg (Nx h2),if_pos h3];exact ⟨rfl,rfl,trivial⟩
 ·have h:=Nx h;have h2:=Nx h2;have hf:aE r n=0:=by omega
  have hr:(r.any fun v=>!db v n)=false:=kg hf;refine ⟨by omega,by omega,fun v hv=>?_,by simp⟩;have:=(sz hr hv).2;omega
 ·simp only at k0 k1 k2 k3 |-;refine ⟨fun hlt=>?_,fun hge=>?_⟩
  ·have hlt:=Nw hlt
   have hgd:out.getD i.toNat 0=r.getD i.toNat 0:=by
    rw [k3];simp only [List.getD_eq_getElem?_getD];rw [List.getElem?_append_right (by simp; omega)];simp only [Oh,NN,List.getElem?_drop];congr 2;omega
   have hol:out.length=r.length:=by rw [k3]; simp; omega
   have hrd:r.drop i.toNat=r.getD i.toNat 0::r.drop (i+1).toNat:=bz 0 k0 hlt
   have htk:r.take (i+1).toNat=r.take i.toNat++[r.getD i.toNat 0]:=by
    rw [show (i+1).toNat=i.toNat+1 by omega,Ol (by omega)];simp [List.getD,show i.toNat<r.length by omega]
   have hset:∀ y,out.set i.toNat y=(r.take i.toNat).map (m5 to)++y::r.drop (i+1).toNat:=by
    intro y;rw [k3,hrd,Pj _ _ (by simp; omega)];simp [OV (show i.toNat<=r.length by omega)]
   have hmem:=k2 _ (aH (0:Int) k0 hlt);rw [hgd];refine ⟨k0,by omega,by omega,fun hc=>?_,fun hc=>?_⟩
   ·have hc:=Nw hc;refine ⟨hc,hmem,k0,by omega,by omega,by simp only [am]; omega,⟨by omega,by omega,k2,?_⟩,by omega⟩;have e1:m5 to (r.getD i.toNat 0)=to.getD (r.getD i.toNat 0).toNat 0:=if_pos hc;rw [hset,htk,Ot,<- e1];simp
   ·have hc:=Nx hc;refine ⟨by simp only [am]; omega,⟨by omega,by omega,k2,?_⟩,by omega⟩;have e1:m5 to (r.getD i.toNat 0)=r.getD i.toNat 0:=if_neg hc;rw [k3,hrd,htk,Ot,List.map_singleton,e1];simp
  ·have hge:=Nx hge;have hi:i.toNat=r.length:=by omega
   simp only [bf];rw [if_neg (Nx h),if_neg (Nx h2),if_neg (by rw [h3]; simp),k3,hi];simp
theorem rJ:AN.ok Tryz.prog 159:=aF (ann:=CX) (ae lf (ae bZ (ae yZ (ae Ho ap)))) Tryz.func159 (by kernel_rfl) xT
def io (l:List Int) (m:Nat):List Int:=((List.range m).map Int.ofNat).filter (fx l)
end
section
theorem cu {l:List Int} {n:Int}:fx l n=true ↔ n∈l:=by
 unfold fx;rw [OK];exact ⟨fun ⟨x,h1,h2⟩=>Nw h2 ▸ h1,fun h=>⟨n,h,by simp⟩⟩
theorem jE (d:Array Int) (hd:∀ i j,i<j->j<d.size->d[i]!<=d[j]!):∀ m,m<=d.size ->
  (Lib.compactUpTo d m).Pairwise (·<·)/\(∀ x∈Lib.compactUpTo d m,∃ j,j<m/\x=d[j]!)/\∀ j,j<m->d[j]!∈Lib.compactUpTo d m
 | 0,_=>by
  have e:Lib.compactUpTo d 0=[]:=rfl;rw [e];exact ⟨.nil,fun x hx=>(by cases hx),fun j hj=>by omega⟩
 | m+1,hm=>by
  obtain ⟨h1,h2,h3⟩:=jE d hd m (by omega);rw [Lib.compactUpTo_succ];cases hk:Lib.keeps d m
  ·simp only [NJ,N4,Om];have hk:¬ (m=0\/d[m]!≠d[m - 1]!):=Nx hk;refine ⟨h1,fun x hx=>?_,fun j hj=>?_⟩
   ·obtain ⟨j,hj,e⟩:=h2 x hx;exact ⟨j,by omega,e⟩
   ·by_cases hjm:j=m
    ·subst hjm;have e:d[j]! = d[j - 1]!:=Ok fun h=>hk (.inr h)
     rw [e];exact h3 _ (by omega)
    ·exact h3 j (by omega)
  ·simp only [if_true];have hk:m=0\/d[m]!≠d[m - 1]!:=Nw hk;refine ⟨Pq.2 ⟨h1,List.pairwise_singleton _ _,fun x hx y hy=>?_⟩,fun x hx=>?_,fun j hj=>?_⟩
   ·rw [NL.1 hy];obtain ⟨j,hj,e⟩:=h2 x hx;subst e;have h5:=hd (m - 1) m (by omega) (by omega);by_cases hjm:j=m - 1
    ·subst hjm;omega
    ·have:=hd j (m - 1) (by omega) (by omega);omega
   ·rcases NI.1 hx with hx | hx
    ·obtain ⟨j,hj,e⟩:=h2 x hx;exact ⟨j,by omega,e⟩
    ·exact ⟨m,by omega,NL.1 hx⟩
   ·by_cases hjm:j=m
    ·subst hjm;simp
    ·exact ND _ (h3 j (by omega))
theorem kZ (xs:List Int):(d8 xs).Pairwise (·<=·):=by
 have:=List.pairwise_mergeSort (le:=fun x y:Int=>decide (x<=y)) (fun a b c h1 h2=>by simp only [N5] at *; omega) (fun a b=>by simp only [Oj,N5]; omega) xs;exact this.imp (fun h=>Nw h)
theorem p8 {xs:List Int} {x:Int}:x∈d8 xs ↔ x∈xs:=List.mem_mergeSort
theorem iW (xs:List Int):(d8 xs).length=xs.length:=List.length_mergeSort _
theorem sy {xs:List Int} (h:xs.Pairwise (·<=·)):(fC xs).Pairwise (·<·)/\∀ x,x∈fC xs ↔ x∈xs:=by
 have hd:∀ i j,i<j->j<xs.toArray.size->xs.toArray[i]!<=xs.toArray[j]!:=by
  intro i j hij hj;have hj:j<xs.length:=by simpa using hj
  have:=Pm.1 h i j (by omega) hj hij;simpa [show i<xs.length by omega,hj] using this
 obtain ⟨h1,h2,h3⟩:=jE xs.toArray hd xs.length (by simp);refine ⟨h1,fun x=>⟨fun hx=>r5 xs x hx,fun hx=>?_⟩⟩;obtain ⟨j,hj,e⟩:=List.getElem_of_mem hx;have:=h3 j hj;simp only [List.getElem!_toArray,hj,getElem!_pos,e] at this;exact this
theorem qh:∀ {l k:List Int},l.Pairwise (·<·)->k.Pairwise (·<·)->(∀ x,x∈l ↔ x∈k)->l=k
 | [],[],_,_,_=>rfl
 | [],y::k,_,_,h=>absurd ((h y).2 (by simp)) (by simp)
 | x::l,[],_,_,h=>absurd ((h x).1 (by simp)) (by simp)
 | x::l,y::k,hl,hk,h=>by
  obtain ⟨a1,a2⟩:=Oc.1 hl;obtain ⟨b1,b2⟩:=Oc.1 hk
  have e:x=y:=by
   have h1:=(h x).1 (by simp);have h2:=(h y).2 (by simp);rcases NG.1 h1 with h1 | h1
   ·exact h1
   ·rcases NG.1 h2 with h2 | h2
    ·exact h2.symm
    ·have:=b1 x h1;have:=a1 y h2;omega
  subst e;rw [qh a2 b2 (fun z=>⟨fun hz=>?_,fun hz=>?_⟩)]
  ·have:=(h z).1 (by simp [hz]);rcases NG.1 this with e | h1
   ·subst e;exact absurd (a1 z hz) (by omega)
   ·exact h1
  ·have:=(h z).2 (by simp [hz]);rcases NG.1 this with e | h1
   ·subst e;exact absurd (b1 z hz) (by omega)
   ·exact h1
theorem HO (m:Nat):((List.range m).map Int.ofNat).Pairwise (·<·):=by
 rw [List.pairwise_map];exact List.pairwise_lt_range.imp (fun h=>by simp only [P0]; omega)
theorem Bp (l:List Int) (m:Nat):(io l m).Pairwise (·<·):=(HO m).filter _
theorem tz {l:List Int} {m:Nat} {x:Int}:x∈io l m ↔ 0<=x/\x<m/\x∈l:=by
 unfold io;rw [OC,cu,NZ];constructor
 ·rintro ⟨⟨j,hj,rfl⟩,hx⟩;have:=PP.1 hj;simp only [P0] at *;exact ⟨by omega,by omega,hx⟩
 ·rintro ⟨h1,h2,h3⟩;exact ⟨⟨x.toNat,PP.2 (by omega),by simp only [P0]; omega⟩,h3⟩
end
section
def fu (a:List Int) (x:Int):List Int:=((bH a x).filter fun v=>decide (v≠0)).map (· - 1)
inductive Rch (a from_:List Int):Int->Prop
 | base {x:Int}:x∈from_->Rch a from_ x
 | step {x y:Int}:Rch a from_ x->y∈fu a x->Rch a from_ y
def pN (a l:List Int):Bool:=l.all fun x=>(fu a x).all (fx l)
def pd (a l:List Int):List Int:=l++l.flatMap (fu a)
def rU (a:List Int):Nat->List Int->List Int
 | 0,l=>l
 | n+1,l=>if pN a l=true then l else rU a n (pd a l)
def bF (a from_:List Int):List Int:=io (rU a 257 from_) 256
theorem nr {α:Type} {p q:α->Bool}:∀ (l:List α),(∀ x∈l,p x=true->q x=true)->(l.filter p).length<=(l.filter q).length
 | [],_=>by simp
 | x::l,h=>by
  have ih:=nr l (fun y hy=>h y (by simp [hy]));have hx:=h x (by simp);cases hp:p x
  ·rw [OO (by simp [hp])];cases hq:q x
   ·rw [OO (by simp [hq])]; exact ih
   ·rw [Ov hq,NC]; omega
  ·rw [Ov hp,Ov (hx hp),NC,NC]; omega
theorem nq {α:Type} {p q:α->Bool}:∀ (l:List α),(∀ x∈l,p x=true->q x=true)->(∃ x∈l,p x=false/\q x=true)->(l.filter p).length<(l.filter q).length
 | [],_,h=>by obtain ⟨x,hx,_⟩:=h; cases hx
 | x::l,h,⟨y,hy,hp,hq⟩=>by
  have h':∀ y∈l,p y=true->q y=true:=fun y hy=>h y (by simp [hy])
  have le:=nr l h';rcases NG.1 hy with rfl | hy
  ·rw [OO (by simp [hp]),Ov hq,NC]; omega
  ·have ih:=nq l h' ⟨y,hy,hp,hq⟩;have hx:=h x (by simp);cases hp:p x
   ·rw [OO (by simp [hp])];cases hq:q x
    ·rw [OO (by simp [hq])]; exact ih
    ·rw [Ov hq,NC]; omega
   ·rw [Ov hp,Ov (hx hp),NC,NC]; omega
def EZ (l:List Int):Nat:=(io l 256).length
theorem MJ (l:List Int):EZ l<=256:=by
 have:=PS (fx l) ((List.range 256).map Int.ofNat);unfold EZ io;simpa using this
theorem MI {l k:List Int} (h:∀ x∈l,x∈k) {y:Int} (hy:y∈k) (hn:¬ y∈l) (h0:0<=y) (h1:y<=255):EZ l<EZ k:=by
 refine nq _ (fun x _ hx=>cu.2 (h x (cu.1 hx))) ⟨y,?_,?_,cu.2 hy⟩
 ·rw [NZ];exact ⟨y.toNat,PP.2 (by omega),by simp only [P0]; omega⟩
 ·cases hl:fx l y
  ·rfl
  ·exact absurd (cu.1 hl) hn
theorem r6 {a l:List Int}:pN a l=true ↔ ∀ x∈l,∀ y∈fu a x,y∈l:=by
 unfold pN;simp only [NH,cu]
theorem gF {a:List Int} {x:Int} (h:isB (ac a).1 x=true):0<=x/\x<=255:=cJ _ (JL h).1
theorem qk {a:List Int} (hw:∀ x∈a,am .u64 x) (hc:(ak a).2.2=0) {x y:Int} (hx:isB (ac a).1 x=true) (hy:y∈fu a x):isB (ac a).1 y=true:=by
 unfold fu at hy;obtain ⟨v,hv,rfl⟩:=NZ.1 hy;obtain ⟨hv,h0⟩:=OC.1 hv;have h0:=Nw h0;rcases nG hw hc _ (fj hx).1 v hv with e | ⟨_,_,e⟩
 ·exact absurd e h0
 ·exact e
theorem Rch.isB {a from_:List Int} (hw:∀ x∈a,am .u64 x) (hc:(ak a).2.2=0) (hf:∀ x∈from_,isB (ac a).1 x=true) {x:Int} (h:Rch a from_ x):isB (ac a).1 x=true:=by
 induction h with
 | base h=>exact hf _ h
 | step _ h ih=>exact qk hw hc ih h
theorem Rch.mem {a from_ l:List Int} (h1:∀ x∈from_,x∈l) (h2:∀ x∈l,∀ y∈fu a x,y∈l) {x:Int} (h:Rch a from_ x):x∈l:=by
 induction h with
 | base h=>exact h1 _ h
 | step _ h ih=>exact h2 _ ih _ h
theorem Rch.mono {a f g:List Int} (h:∀ x∈f,Rch a g x) {x:Int} (hx:Rch a f x):Rch a g x:=by
 induction hx with
 | base hx=>exact h _ hx
 | step _ hy ih=>exact .step ih hy
theorem xu (a:List Int):∀ (n:Nat) (l:List Int),∀ x∈l,x∈rU a n l
 | 0,_,_,h=>h
 | n+1,l,x,h=>by
  unfold rU;split
  ·exact h
  ·exact xu a n _ x (by unfold pd; simp [h])
theorem xv {a f:List Int}:∀ (n:Nat) (l:List Int),(∀ x∈l,Rch a f x)->∀ x∈rU a n l,Rch a f x
 | 0,_,h,x,hx=>h x hx
 | n+1,l,h,x,hx=>by
  unfold rU at hx;split at hx
  ·exact h x hx
  ·refine xv n _ (fun y hy=>?_) x hx;unfold pd at hy;rcases NI.1 hy with hy | hy
   ·exact h y hy
   ·obtain ⟨z,hz,hy⟩:=Px.1 hy;exact .step (h z hz) hy
theorem pn {a:List Int} (hw:∀ x∈a,am .u64 x) (hc:(ak a).2.2=0):∀ (n:Nat) (l:List Int),(∀ x∈l,isB (ac a).1 x=true)->257<=n+EZ l->pN a (rU a n l)=true
 | 0,l,_,hn=>by have:=MJ l; omega
 | n+1,l,hl,hn=>by
  unfold rU;by_cases h:pN a l=true
  ·rw [if_pos h]; exact h
  rw [if_neg h]
  have hl2:∀ x∈pd a l,isB (ac a).1 x=true:=by
   intro y hy;unfold pd at hy;rcases NI.1 hy with hy | hy
   ·exact hl y hy
   ·obtain ⟨z,hz,hy⟩:=Px.1 hy;exact qk hw hc (hl z hz) hy
  refine pn hw hc n _ hl2 ?_;rw [r6] at h
  have h:∃ x,x∈l/\∃ y,y∈fu a x/\¬ y∈l:=by
   apply Ok;intro hno;apply h;intro x hx y hy;apply Ok;intro hyl;exact hno ⟨x,hx,y,hy,hyl⟩
  obtain ⟨x,hx,y,hy,hyl⟩:=h
  have hy2:y∈pd a l:=by
   unfold pd;exact NF _ (Px.2 ⟨x,hx,hy⟩)
  have hr:=gF (hl2 y hy2);have:=MI (l:=l) (k:=pd a l) (fun z hz=>by unfold pd; simp [hz]) hy2 hyl hr.1 hr.2;omega
theorem ia {a from_:List Int} (hw:∀ x∈a,am .u64 x) (hc:(ak a).2.2=0) (hf:∀ x∈from_,isB (ac a).1 x=true) {x:Int}:x∈bF a from_ ↔ Rch a from_ x:=by
 unfold bF;rw [tz];constructor
 ·intro h;exact xv 257 from_ (fun y hy=>.base hy) x h.2.2
 ·intro h;have hr:=gF (h.isB hw hc hf);refine ⟨hr.1,by omega,?_⟩;have hcl:=r6.1 (pn hw hc 257 from_ hf (by omega));exact h.mem (xu a 257 from_) hcl
theorem k9 (a from_:List Int):(bF a from_).Pairwise (·<·):=Bp _ _
structure Full (a from_ out:List Int):Prop where
 has:∀ x∈from_,x∈out
 only:∀ x∈out,Rch a from_ x
 all:∀ x∈out,∀ y∈fu a x,y∈out
theorem Full.iff {a from_ out:List Int} (h:Full a from_ out) {x:Int}:x∈out ↔ Rch a from_ x:=⟨h.only x,fun hx=>hx.mem h.has h.all⟩
theorem Full.sorted {a from_ out:List Int} (hw:∀ x∈a,am .u64 x) (hc:(ak a).2.2=0) (hf:∀ x∈from_,isB (ac a).1 x=true) (h:Full a from_ out) (hd:out.Nodup):d8 out=bF a from_:=by
 refine qh ?_ (k9 _ _) (fun x=>by rw [p8,ia hw hc hf,h.iff]);have h1:=kZ out;have h2:(d8 out).Nodup:=(List.mergeSort_perm out _).nodup_iff.2 hd;have h3:=h1.and h2;exact h3.imp (fun ⟨x,y⟩=>by omega)
def aZ (a from_:List Int):Int:=if (ak a).2.2≠0 then (ak a).2.2 else if from_.all (isB (ac a).1)=true then 0 else 5
def dG (a from_:List Int):List Int×Int:=if aZ a from_≠0 then ([],aZ a from_) else (bF a from_,0)
theorem eN {a from_:List Int} (h:aZ a from_=0):(ak a).2.2=0/\∀ x∈from_,isB (ac a).1 x=true:=by
 unfold aZ at h;split at h
 ·rename_i h1; exact absurd h h1
 ·rename_i h1;split at h
  ·rename_i h2;exact ⟨by omega,NH.1 h2⟩
  ·omega
theorem jc {a from_:List Int} (h1:(ak a).2.2=0) (h2:∀ x∈from_,isB (ac a).1 x=true):aZ a from_=0:=by
 unfold aZ;rw [if_neg (by omega),if_pos (NH.2 h2)]
end
end Go.Proofs.YtmfileeamnfpaaaGreatDoor
