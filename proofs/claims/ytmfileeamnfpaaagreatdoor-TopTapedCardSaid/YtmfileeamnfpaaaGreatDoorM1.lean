import Derived.Test.YtmfileeamnfpaaaGreatDoorEG6
import Derived.Test.YtmfileeamnfpaaaGreatDoorRows
import Derived.Lib.SplitLaws
import Derived.Lib.AtoiAll
import Derived.Lib.ItoaNum
import Derived.WalkKit
import Derived.Lib.ItoaLen
import Derived.Shelf.Strings.Split
import Derived.Shelf.Strings.SplitCore
import Derived.Shelf.Strings.Search3
import Derived.Shelf.Strconv.Itoa3
import Derived.Shelf.Strconv.AtoiAll
import Derived.Shelf.Sort.Plain
import Derived.Shelf.Slices.In.SortNone
import Derived.Shelf.Slices.CompactI
import Derived.Sort.OwnSortedInts
namespace Go.Proofs.YtmfileeamnfpaaaGreatDoor
open Go
set_option maxRecDepth 100000
set_option maxHeartbeats 1000000
section
def NC:List (Nat×Spec)->FuncId->Option Spec
 | [],_=>none
 | e::l,f=>if Nat.beq e.1 f then some e.2 else NC l f
def NB:List (Nat×TFn)->FuncId->Option TFn
 | [],_=>none
 | e::l,f=>if Nat.beq e.1 f then some e.2 else NB l f
def ND (l:List (Nat×Spec)) (r:List (Nat×TFn):=[]):Specs:={ fn:=NC l,row:=NB r }
theorem ap:(ND []).ok Tryz.prog:=by
 refine ⟨rfl,?_,?_⟩
 ·intro f s h;cases h
 ·intro f s h;cases h
theorem CB {P:Program} {f:Nat} {s:TFn} {r:List (Nat×TFn)} (h:s.ok P f) (hl:(ND [] r).ok P):(ND [] ((f,s)::r)).ok P:=by
 refine ⟨hl.1,hl.2.1,?_⟩;intro g t e;have e:NB ((f,s)::r) g=some t:=e;unfold NB at e;split at e
 ·rename_i he;have he:=CC he;injection e with e
  subst e;simp only at he;subst he;exact h
 ·exact hl.2.2 g t e
theorem kF {P:Program} {f:Nat} {s:RowFn} {r:List (Nat×TFn)} (h:s.ok P f) (hl:(ND [] r).ok P):(ND [] ((f,.row s)::r)).ok P:=CB (s:=.row s) h hl
theorem pR {P:Program} {f:Nat} {s:BoxFn} {r:List (Nat×TFn)} (h:s.ok P f) (hl:(ND [] r).ok P):(ND [] ((f,.box s)::r)).ok P:=CB (s:=.box s) h hl
theorem ae {P:Program} {f:Nat} {s:Spec} {l:List (Nat×Spec)} {r:List (Nat×TFn)} (h:s.ok P f) (hl:(ND l r).ok P):(ND ((f,s)::l) r).ok P:=by
 refine ⟨hl.1,?_,hl.2.2⟩;intro g t e;have e:NC ((f,s)::l) g=some t:=e;unfold NC at e;split at e
 ·rename_i he;have he:=CC he;injection e with e
  subst e;simp only at he;subst he;exact h
 ·exact hl.2.1 g t e
theorem aD {ss:Specs} {ann:Nat->Option LoopGen} {f:FuncId} {fn:Func} {s:Spec} {pv:Prop} (hss:ss.ok Tryz.prog) (hfn:Tryz.prog.funcs[f]?=some fn) (e:pv=Py Tryz.prog ss ann fn s) (h:pv):s.ok Tryz.prog f:=MO hss hfn (e.mp h)
def iL:(T:Ty)->T.den->Prop
 | .arr T,xs=>(show List T.den from xs).length * T.bytes<=140737488351232/\∀ x∈(show List T.den from xs),iL T x
 | .pair A B,x=>iL A x.1/\iL B x.2
 | .str,s=>s.length<=140737488351232
 | .int _,_=>True
 | .bool,_=>True
 | .nil,_=>True
 | .ref _,_=>True
 | .fn _ _,_=>True
 | .map _ _,_=>True
def m6:(Ts:List Ty)->gm Ts->Prop
 | [],_=>True
 | [T],x=>iL T x
 | T::U::Ts,x=>iL T x.1/\m6 (U::Ts) x.2
def LD (Ts:List Ty):Spec:={ Ts:=Ts,Rs:=[.dat .bool],pre:=m6 Ts,F:=fun _=>(true:Bool) }
def ij (B:Nat):(T:Ty)->T.den->Prop
 | .arr T,xs=>(show List T.den from xs).length<=B/\∀ x∈(show List T.den from xs),ij B T x
 | .pair A C,x=>ij B A x.1/\ij B C x.2
 | .str,s=>s.length<=B
 | .int _,_=>True
 | .bool,_=>True
 | .nil,_=>True
 | .ref _,_=>True
 | .fn _ _,_=>True
 | .map _ _,_=>True
def rE (B:Nat):(Ts:List Ty)->gm Ts->Prop
 | [],_=>True
 | [T],x=>ij B T x
 | T::U::Ts,x=>ij B T x.1/\rE B (U::Ts) x.2
def cF:Nat->Option LoopGen:=fun _=>none
abbrev ty_I:Ty:=.int .i64
abbrev bi:Ty:=.int .u64
abbrev ia:Ty:=.pair ty_I (.pair ty_I (.pair ty_I .bool))
abbrev FO:Ty:=.pair ty_I (.pair (.arr ty_I) (.pair (.arr bi) .bool))
abbrev Obj:=Int×List Int×List Int×Bool
theorem eY {n:Int} (h:0<=n) (h2:n<=18446744073709551615):IntKind.u64.wrap n=n:=dC (k:=.u64) ⟨h,h2⟩
theorem jT {n:Int} (h:-9223372036854775808<=n) (h2:n<=9223372036854775807):IntKind.i64.wrap n=n:=dC (k:=.i64) ⟨h,h2⟩
theorem K1 {n:Int}:IntKind.u8.wrap n=n % 256:=by
 simp [IntKind.wrap,IntKind.bits,IntKind.signed]
theorem E5:((IntKind.u64.bits:Nat):Int)=64:=rfl
theorem nY {a b:Int} {i:Nat} (ha:0<=a) (hb:0<=b) (h:a<2 ^ i):((a.toNat ||| (b * 2 ^ i).toNat:Nat):Int)=a+b * 2 ^ i:=by
 obtain ⟨m,rfl⟩:=Ro ha;obtain ⟨n,rfl⟩:=Ro hb;have h1:m<2 ^ i:=by exact_mod_cast h
 have e:((n:Int) * 2 ^ i).toNat=n * 2 ^ i:=by
  have:((n:Int) * 2 ^ i)=((n * 2 ^ i:Nat):Int):=by push_cast; rfl
  rw [this,Q5]
 rw [e,Q5,Nat.or_comm,Nat.mul_comm n,<- Nat.two_pow_add_eq_or_of_lt h1 n]
 push_cast
 rw [Int.add_comm,Int.mul_comm]
theorem nn {a:Int} (ha:0<=a) (i:Nat):((a.toNat &&& (2 ^ i - 1):Nat):Int)=a % 2 ^ i:=by
 obtain ⟨m,rfl⟩:=Ro ha;rw [Nat.and_two_pow_sub_one_eq_mod]
 push_cast
 rw [Q5]
theorem Ba (m i:Nat):m &&& 2 ^ i=m / 2 ^ i % 2 * 2 ^ i:=by
 apply Nat.eq_of_testBit_eq;intro j;rw [Nat.testBit_and,Nat.testBit_two_pow]
 have key:m / 2 ^ i % 2=(m.testBit i).toNat:=by
  rw [Nat.testBit_eq_decide_div_mod_eq];rcases Nat.mod_two_eq_zero_or_one (m / 2 ^ i) with h | h <;> simp [h]
 rw [key];by_cases hij:i=j
 ·subst hij;cases h:m.testBit i <;> simp
 ·cases h:m.testBit i <;> simp [hij]
theorem My {a:Int} (ha:0<=a) (i:Nat):((a.toNat &&& 2 ^ i:Nat):Int)=a / 2 ^ i % 2 * 2 ^ i:=by
 obtain ⟨m,rfl⟩:=Ro ha;rw [Q5,Ba]
 push_cast
 rfl
theorem bI {α:Type} {xs:List α} (d:α) {i:Int} (h0:0<=i) (h:i<(xs.length:Int)):xs.drop i.toNat=xs.getD i.toNat d::xs.drop (i+1).toNat:=by
 have hi:i.toNat<xs.length:=by omega
 rw [Rq hi,show (i+1).toNat=i.toNat+1 by omega];simp [hi]
theorem cE {α:Type} {xs:List α} {i:Int} (h:¬ i<(xs.length:Int)):xs.drop i.toNat=[]:=by
 rw [List.drop_eq_nil_iff]; omega
theorem a8 {α:Type} {xs:List α} (d:α) {i:Int} (h0:0<=i) (h:i<(xs.length:Int)):xs.take (i+1).toNat=xs.take i.toNat++[xs.getD i.toNat d]:=by
 have hi:i.toNat<xs.length:=by omega
 rw [show (i+1).toNat=i.toNat+1 by omega,Q4 hi];simp [hi]
theorem bT {α:Type} {xs:List α} {i:Int} (h:¬ i<(xs.length:Int)):xs.take i.toNat=xs:=by
 rw [QG]; omega
theorem aI {α:Type} {xs:List α} (d:α) {i:Int} (h0:0<=i) (h:i<(xs.length:Int)):xs.getD i.toNat d∈xs:=by
 have hi:i.toNat<xs.length:=by omega
 simp [hi]
end
section
def aj:List UInt8->List (List UInt8)
 | []=>[[]]
 | c::r=>if c=32 then []::aj r else match aj r with
  | []=>[[c]]
  | p::ps=>(c::p)::ps
theorem yx:∀ s,aj s≠[]
 | []=>by simp [aj]
 | c::r=>by
  unfold aj;split
  ·simp
  ·split <;> simp
theorem m5:∀ s:List UInt8,Lib.indexByte s 32=-1->aj s=[s]
 | [],_=>rfl
 | c::r,h=>by
  unfold Lib.indexByte at h
  have hc:c≠32:=by
   intro e;rw [if_pos (by simp [e])] at h;cases h
  have hr:Lib.indexByte r 32=-1:=by
   rw [if_neg (by simp [hc])] at h;split at h
   ·rename_i h1;simpa using h1
   ·have:=Lib.indexByte_ge r 32;omega
  unfold aj;rw [if_neg hc,m5 r hr]
theorem mZ:∀ (s:List UInt8) (i:Nat),Lib.indexByte s 32=i->aj s=s.take i::aj (s.drop (i+1))/\(s.drop (i+1)).count 32+1=s.count 32
 | [],i,h=>by
  simp only [Lib.indexByte] at h;omega
 | c::r,i,h=>by
  unfold Lib.indexByte at h;by_cases hc:c=32
  ·rw [if_pos (by simp [hc])] at h;obtain rfl:i=0:=by omega
   subst hc;rw [aj,if_pos rfl];simp
  ·rw [if_neg (by simp [hc])] at h;split at h
   ·omega
   ·rename_i hn;have hr:=Lib.indexByte_ge r 32;have hr':Lib.indexByte r 32≠-1:=by simpa using hn
    obtain ⟨j,hj⟩:=Ro (show 0<=Lib.indexByte r 32 by omega);obtain ⟨h1,h2⟩:=mZ r j hj;obtain rfl:i=j+1:=by omega
    refine ⟨?_,?_⟩
    ·rw [aj,if_neg hc,h1];simp
    ·rw [List.count_cons_of_ne hc];simpa using h2
theorem yy:∀ (k:Nat) (s:List UInt8),s.count 32=k->Lib.splitK [32] 0 k s=aj s
 | 0,s,h=>by
  have hi:Lib.indexByte s 32=-1:=by
   apply Rc;intro hn;have:=Lib.indexByte_ge s 32;obtain ⟨j,hj⟩:=Ro (show 0<=Lib.indexByte s 32 by omega);have:=(mZ s j hj).2;omega
  rw [m5 s hi];rfl
 | k+1,s,h=>by
  unfold Lib.splitK;rw [Lib.index_one];by_cases hi:Lib.indexByte s 32=-1
  ·rw [if_pos (by simp [hi]),m5 s hi]
  ·have:=Lib.indexByte_ge s 32;obtain ⟨j,hj⟩:=Ro (show 0<=Lib.indexByte s 32 by omega);obtain ⟨h1,h2⟩:=mZ s j hj;rw [if_neg (by simp [hi]),h1,hj];simp only [Q5,RQ,HN,QQ,Rl];rw [yy k _ (by omega)]
def f9 (s:List UInt8):Int×Bool:=match Lib.atoiAll s with
 | .ok v=>(v,decide (-1000000000000000<v/\v<1000000000000000/\Lib.itoa v=s))
 | .range=>(Lib.atoiSat s,false)
 | _=>(0,false)
end
section
open Go Go.RowKit Go.Shelf
set_option maxHeartbeats 4000000
def xV:Go.Shelf.Ren:=⟨fun | 146=>185 | 221=>236 | 268=>258 | 138=>259 | 143=>260 | 195=>274 | 197=>275 | 218=>276 | 219=>277 | 260=>291 | 217=>292 | 225=>293 | 224=>294 | 267=>295 | 266=>301 | 314=>302 | n=>n,fun | 9=>9 | 31=>22 | 3=>3 | 4=>4 | 0=>0 | 105=>342 | 21=>21 | 5=>5 | 46=>182 | 119=>361 | 139=>364 | 138=>363 | 146=>283 | 51=>267 | n=>n,fun | 1=>2 | 3=>5 | 4=>6 | n=>n⟩
theorem Kn:Go.Proofs.Lays.n146 Tryz.prog xV where
 mixed:=by kernel_rfl
 f138:=Tryz.func259.trans (congrArg some (by kernel_rfl))
 f143:=Tryz.func260.trans (congrArg some (by kernel_rfl))
 f146:=Tryz.func185.trans (congrArg some (by kernel_rfl))
 f195:=Tryz.func274.trans (congrArg some (by kernel_rfl))
 f197:=Tryz.func275.trans (congrArg some (by kernel_rfl))
 f217:=Tryz.func292.trans (congrArg some (by kernel_rfl))
 f218:=Tryz.func276.trans (congrArg some (by kernel_rfl))
 f219:=Tryz.func277.trans (congrArg some (by kernel_rfl))
 f221:=Tryz.func236.trans (congrArg some (by kernel_rfl))
 f224:=Tryz.func294.trans (congrArg some (by kernel_rfl))
 f225:=Tryz.func293.trans (congrArg some (by kernel_rfl))
 f260:=Tryz.func291.trans (congrArg some (by kernel_rfl))
 f266:=Tryz.func301.trans (congrArg some (by kernel_rfl))
 f267:=Tryz.func295.trans (congrArg some (by kernel_rfl))
 f268:=Tryz.func258.trans (congrArg some (by kernel_rfl))
 f314:=Tryz.func302.trans (congrArg some (by kernel_rfl))
 t0:=SW
 a0:=Tryz.isAgg0
 z0:=Tryz.sizeOf0
 v0:=S9
 t3:=SV
 a3:=Tryz.isAgg3
 z3:=Tryz.sizeOf3
 v3:=S8
 t4:=Sz
 a4:=Tryz.isAgg4
 z4:=Tryz.sizeOf4
 v4:=S7
 t5:=Tryz.underlying5
 a5:=Tryz.isAgg5
 z5:=Tryz.sizeOf5
 v5:=Tryz.zeroValue5
 t9:=Tryz.underlying9
 a9:=Tryz.isAgg9
 z9:=Tryz.sizeOf9
 v9:=Tryz.zeroValue9
 t21:=Tryz.underlying21
 a21:=Tryz.isAgg21
 z21:=Tryz.sizeOf21
 v21:=Tryz.zeroValue21
 t31:=Tryz.underlying22
 a31:=Tryz.isAgg22
 z31:=Tryz.sizeOf22
 v31:=Tryz.zeroValue22
 t46:=Tf
 a46:=Tryz.isAgg182
 z46:=Tryz.sizeOf182
 v46:=Ti
 t51:=Te
 a51:=Tryz.isAgg267
 z51:=Tryz.sizeOf267
 v51:=Th
 t105:=Tryz.underlying342
 a105:=Tryz.isAgg342
 z105:=Tryz.sizeOf342
 v105:=Tryz.zeroValue342
 t119:=Tryz.underlying361
 a119:=Tryz.isAgg361
 z119:=Tryz.sizeOf361
 t138:=Tryz.underlying363
 a138:=Tryz.isAgg363
 z138:=Tryz.sizeOf363
 v138:=Tryz.zeroValue363
 t139:=Tryz.underlying364
 a139:=Tryz.isAgg364
 z139:=Tryz.sizeOf364
 v139:=Tryz.zeroValue364
 t146:=Tryz.underlying283
 a146:=Tryz.isAgg283
 z146:=Tryz.sizeOf283
 v146:=Tryz.zeroValue283
 g1:=by kernel_rfl
 g3:=by kernel_rfl
 g4:=by kernel_rfl
def Bf:Go.Shelf.Ren:=⟨fun | 171=>110 | 243=>188 | 246=>243 | 283=>264 | 284=>265 | 285=>266 | 286=>267 | 129=>184 | 317=>283 | 318=>284 | 319=>285 | 320=>286 | 337=>299 | 338=>300 | n=>n,fun | 3=>3 | 9=>9 | 2=>2 | 4=>4 | 171=>336 | 0=>0 | 53=>45 | 37=>148 | 5=>5 | 173=>338 | 212=>353 | 51=>267 | 20=>20 | 213=>354 | 46=>182 | 232=>371 | 233=>372 | n=>n,fun | 17=>1 | 18=>7 | 19=>8 | n=>n⟩
theorem Mx:Go.Proofs.LaysM.n171 Tryz.prog Bf where
 mixed:=by kernel_rfl
 f129:=Tryz.func184.trans (congrArg some (by kernel_rfl))
 f171:=Tryz.func110.trans (congrArg some (by kernel_rfl))
 f243:=Tryz.func188.trans (congrArg some (by kernel_rfl))
 f246:=Tryz.func243.trans (congrArg some (by kernel_rfl))
 f283:=Tryz.func264.trans (congrArg some (by kernel_rfl))
 f284:=Tryz.func265.trans (congrArg some (by kernel_rfl))
 f285:=Tryz.func266.trans (congrArg some (by kernel_rfl))
 f286:=Tryz.func267.trans (congrArg some (by kernel_rfl))
 f317:=Tryz.func283.trans (congrArg some (by kernel_rfl))
 f318:=Tryz.func284.trans (congrArg some (by kernel_rfl))
 f319:=Tryz.func285.trans (congrArg some (by kernel_rfl))
 f320:=Tryz.func286.trans (congrArg some (by kernel_rfl))
 f337:=Tryz.func299.trans (congrArg some (by kernel_rfl))
 f338:=Tryz.func300.trans (congrArg some (by kernel_rfl))
 t0:=SW
 a0:=Tryz.isAgg0
 z0:=Tryz.sizeOf0
 v0:=S9
 t2:=Tryz.underlying2
 a2:=Tryz.isAgg2
 z2:=Tryz.sizeOf2
 v2:=Tryz.zeroValue2
 t3:=SV
 a3:=Tryz.isAgg3
 z3:=Tryz.sizeOf3
 v3:=S8
 t4:=Sz
 a4:=Tryz.isAgg4
 z4:=Tryz.sizeOf4
 v4:=S7
 t5:=Tryz.underlying5
 a5:=Tryz.isAgg5
 z5:=Tryz.sizeOf5
 v5:=Tryz.zeroValue5
 t9:=Tryz.underlying9
 a9:=Tryz.isAgg9
 z9:=Tryz.sizeOf9
 v9:=Tryz.zeroValue9
 t20:=Tryz.underlying20
 a20:=Tryz.isAgg20
 z20:=Tryz.sizeOf20
 v20:=Tryz.zeroValue20
 t37:=Tryz.underlying148
 a37:=Tryz.isAgg148
 z37:=Tryz.sizeOf148
 v37:=Tryz.zeroValue148
 t46:=Tf
 a46:=Tryz.isAgg182
 z46:=Tryz.sizeOf182
 v46:=Ti
 t51:=Te
 a51:=Tryz.isAgg267
 z51:=Tryz.sizeOf267
 v51:=Th
 t53:=Tj
 a53:=Tryz.isAgg45
 z53:=Tryz.sizeOf45
 v53:=Tryz.zeroValue45
 t171:=Tryz.underlying336
 a171:=Tryz.isAgg336
 z171:=Tryz.sizeOf336
 v171:=Tryz.zeroValue336
 t173:=Tryz.underlying338
 a173:=Tryz.isAgg338
 z173:=Tryz.sizeOf338
 v173:=Tryz.zeroValue338
 t212:=Tryz.underlying353
 a212:=Tryz.isAgg353
 z212:=Tryz.sizeOf353
 v212:=Tryz.zeroValue353
 t213:=Tryz.underlying354
 a213:=Tryz.isAgg354
 z213:=Tryz.sizeOf354
 t232:=Tryz.underlying371
 a232:=Tryz.isAgg371
 z232:=Tryz.sizeOf371
 v232:=Tryz.zeroValue371
 t233:=Tryz.underlying372
 a233:=Tryz.isAgg372
 z233:=Tryz.sizeOf372
 v233:=Tryz.zeroValue372
 g17:=by kernel_rfl
 g18:=by kernel_rfl
 g19:=by kernel_rfl
 i0:=by kernel_rfl
 i2:=by kernel_rfl
 i3:=by kernel_rfl
 i4:=by kernel_rfl
 i5:=by kernel_rfl
 i9:=by kernel_rfl
 i20:=by kernel_rfl
 i37:=by kernel_rfl
 i46:=by kernel_rfl
 i51:=by kernel_rfl
 i53:=by kernel_rfl
 i171:=by kernel_rfl
 i173:=by kernel_rfl
 i212:=by kernel_rfl
 i232:=by kernel_rfl
 i233:=by kernel_rfl
 m17:=by kernel_rfl
 m18:=by kernel_rfl
 m19:=by kernel_rfl
def Bg:Go.Shelf.Ren:=⟨fun | 172=>242 | 244=>262 | 245=>263 | 247=>278 | 279=>279 | 280=>280 | 281=>281 | 282=>282 | 287=>296 | 316=>297 | 171=>110 | 205=>298 | 321=>303 | 322=>304 | 243=>188 | 246=>243 | 283=>264 | 284=>265 | 285=>266 | 286=>267 | 129=>184 | 317=>283 | 318=>284 | 319=>285 | 320=>286 | 337=>299 | 338=>300 | n=>n,fun | 9=>9 | 3=>3 | 75=>314 | 76=>315 | 4=>4 | 5=>5 | 167=>345 | 37=>148 | 0=>0 | 85=>346 | 2=>2 | 168=>348 | 53=>45 | 175=>356 | 46=>182 | 210=>359 | 127=>367 | 145=>370 | 143=>368 | 21=>21 | 171=>336 | 173=>338 | 212=>353 | 51=>267 | 20=>20 | 213=>354 | 232=>371 | 233=>372 | 80=>373 | n=>n,fun | 15=>3 | 16=>4 | 17=>1 | 18=>7 | 19=>8 | n=>n⟩
theorem wm:Go.Proofs.LaysC.n172 Tryz.prog Bg where
 mixed:=by kernel_rfl
 f129:=Tryz.func184.trans (congrArg some (by kernel_rfl))
 f171:=Tryz.func110.trans (congrArg some (by kernel_rfl))
 f172:=Tryz.func242.trans (congrArg some (by kernel_rfl))
 f205:=Tryz.func298.trans (congrArg some (by kernel_rfl))
 f243:=Tryz.func188.trans (congrArg some (by kernel_rfl))
 f244:=Tryz.func262.trans (congrArg some (by kernel_rfl))
 f245:=Tryz.func263.trans (congrArg some (by kernel_rfl))
 f246:=Tryz.func243.trans (congrArg some (by kernel_rfl))
 f247:=Tryz.func278.trans (congrArg some (by kernel_rfl))
 f279:=Tryz.func279.trans (congrArg some (by kernel_rfl))
 f280:=Tryz.func280.trans (congrArg some (by kernel_rfl))
 f281:=Tryz.func281.trans (congrArg some (by kernel_rfl))
 f282:=Tryz.func282.trans (congrArg some (by kernel_rfl))
 f283:=Tryz.func264.trans (congrArg some (by kernel_rfl))
 f284:=Tryz.func265.trans (congrArg some (by kernel_rfl))
 f285:=Tryz.func266.trans (congrArg some (by kernel_rfl))
 f286:=Tryz.func267.trans (congrArg some (by kernel_rfl))
 f287:=Tryz.func296.trans (congrArg some (by kernel_rfl))
 f316:=Tryz.func297.trans (congrArg some (by kernel_rfl))
 f317:=Tryz.func283.trans (congrArg some (by kernel_rfl))
 f318:=Tryz.func284.trans (congrArg some (by kernel_rfl))
 f319:=Tryz.func285.trans (congrArg some (by kernel_rfl))
 f320:=Tryz.func286.trans (congrArg some (by kernel_rfl))
 f321:=Tryz.func303.trans (congrArg some (by kernel_rfl))
 f322:=Tryz.func304.trans (congrArg some (by kernel_rfl))
 f337:=Tryz.func299.trans (congrArg some (by kernel_rfl))
 f338:=Tryz.func300.trans (congrArg some (by kernel_rfl))
 t0:=SW
 a0:=Tryz.isAgg0
 z0:=Tryz.sizeOf0
 v0:=S9
 t2:=Tryz.underlying2
 a2:=Tryz.isAgg2
 z2:=Tryz.sizeOf2
 v2:=Tryz.zeroValue2
 t3:=SV
 a3:=Tryz.isAgg3
 z3:=Tryz.sizeOf3
 v3:=S8
 t4:=Sz
 a4:=Tryz.isAgg4
 z4:=Tryz.sizeOf4
 v4:=S7
 t5:=Tryz.underlying5
 a5:=Tryz.isAgg5
 z5:=Tryz.sizeOf5
 v5:=Tryz.zeroValue5
 t9:=Tryz.underlying9
 a9:=Tryz.isAgg9
 z9:=Tryz.sizeOf9
 v9:=Tryz.zeroValue9
 t20:=Tryz.underlying20
 a20:=Tryz.isAgg20
 z20:=Tryz.sizeOf20
 v20:=Tryz.zeroValue20
 t21:=Tryz.underlying21
 a21:=Tryz.isAgg21
 z21:=Tryz.sizeOf21
 v21:=Tryz.zeroValue21
 t37:=Tryz.underlying148
 a37:=Tryz.isAgg148
 z37:=Tryz.sizeOf148
 v37:=Tryz.zeroValue148
 t46:=Tf
 a46:=Tryz.isAgg182
 z46:=Tryz.sizeOf182
 v46:=Ti
 t51:=Te
 a51:=Tryz.isAgg267
 z51:=Tryz.sizeOf267
 v51:=Th
 t53:=Tj
 a53:=Tryz.isAgg45
 z53:=Tryz.sizeOf45
 v53:=Tryz.zeroValue45
 t75:=Tryz.underlying314
 a75:=Tryz.isAgg314
 z75:=Tryz.sizeOf314
 v75:=Tryz.zeroValue314
 t76:=Tryz.underlying315
 a76:=Tryz.isAgg315
 z76:=Tryz.sizeOf315
 v76:=Tryz.zeroValue315
 t85:=Tryz.underlying346
 a85:=Tryz.isAgg346
 z85:=Tryz.sizeOf346
 v85:=Tryz.zeroValue346
 t127:=Tryz.underlying367
 a127:=Tryz.isAgg367
 z127:=Tryz.sizeOf367
 v127:=Tryz.zeroValue367
 t143:=Tryz.underlying368
 a143:=Tryz.isAgg368
 z143:=Tryz.sizeOf368
 v143:=Tryz.zeroValue368
 t145:=Tryz.underlying370
 a145:=Tryz.isAgg370
 z145:=Tryz.sizeOf370
 v145:=Tryz.zeroValue370
 t167:=Tryz.underlying345
 a167:=Tryz.isAgg345
 z167:=Tryz.sizeOf345
 v167:=Tryz.zeroValue345
 t168:=Tryz.underlying348
 a168:=Tryz.isAgg348
 z168:=Tryz.sizeOf348
 v168:=Tryz.zeroValue348
 t171:=Tryz.underlying336
 a171:=Tryz.isAgg336
 z171:=Tryz.sizeOf336
 v171:=Tryz.zeroValue336
 t173:=Tryz.underlying338
 a173:=Tryz.isAgg338
 z173:=Tryz.sizeOf338
 v173:=Tryz.zeroValue338
 t175:=Tryz.underlying356
 a175:=Tryz.isAgg356
 z175:=Tryz.sizeOf356
 v175:=Tryz.zeroValue356
 t210:=Tryz.underlying359
 a210:=Tryz.isAgg359
 z210:=Tryz.sizeOf359
 v210:=Tryz.zeroValue359
 t212:=Tryz.underlying353
 a212:=Tryz.isAgg353
 z212:=Tryz.sizeOf353
 v212:=Tryz.zeroValue353
 t213:=Tryz.underlying354
 a213:=Tryz.isAgg354
 z213:=Tryz.sizeOf354
 t232:=Tryz.underlying371
 a232:=Tryz.isAgg371
 z232:=Tryz.sizeOf371
 v232:=Tryz.zeroValue371
 t233:=Tryz.underlying372
 a233:=Tryz.isAgg372
 z233:=Tryz.sizeOf372
 v233:=Tryz.zeroValue372
 g15:=by kernel_rfl
 g16:=by kernel_rfl
 g17:=by kernel_rfl
 g18:=by kernel_rfl
 g19:=by kernel_rfl
 t80:=Tryz.underlying373
 a80:=Tryz.isAgg373
 z80:=Tryz.sizeOf373
 v80:=Tryz.zeroValue373
 i0:=by kernel_rfl
 i2:=by kernel_rfl
 i3:=by kernel_rfl
 i4:=by kernel_rfl
 i5:=by kernel_rfl
 i9:=by kernel_rfl
 i20:=by kernel_rfl
 i21:=by kernel_rfl
 i37:=by kernel_rfl
 i46:=by kernel_rfl
 i51:=by kernel_rfl
 i53:=by kernel_rfl
 i75:=by kernel_rfl
 i76:=by kernel_rfl
 i80:=by kernel_rfl
 i85:=by kernel_rfl
 i127:=by kernel_rfl
 i143:=by kernel_rfl
 i145:=by kernel_rfl
 i167:=by kernel_rfl
 i168:=by kernel_rfl
 i171:=by kernel_rfl
 i173:=by kernel_rfl
 i175:=by kernel_rfl
 i210:=by kernel_rfl
 i212:=by kernel_rfl
 i232:=by kernel_rfl
 i233:=by kernel_rfl
 m15:=by kernel_rfl
 m16:=by kernel_rfl
 m17:=by kernel_rfl
 m18:=by kernel_rfl
 m19:=by kernel_rfl
 c0:=by kernel_rfl
 c2:=by kernel_rfl
 c3:=by kernel_rfl
 c4:=by kernel_rfl
 c5:=by kernel_rfl
 c9:=by kernel_rfl
 c20:=by kernel_rfl
 c21:=by kernel_rfl
 c37:=by kernel_rfl
 c46:=by kernel_rfl
 c51:=by kernel_rfl
 c53:=by kernel_rfl
 c75:=by kernel_rfl
 c76:=by kernel_rfl
 c80:=by kernel_rfl
 c85:=by kernel_rfl
 c127:=by kernel_rfl
 c143:=by kernel_rfl
 c145:=by kernel_rfl
 c167:=by kernel_rfl
 c168:=by kernel_rfl
 c171:=by kernel_rfl
 c173:=by kernel_rfl
 c175:=by kernel_rfl
 c210:=by kernel_rfl
 c212:=by kernel_rfl
 c213:=by kernel_rfl
 c232:=by kernel_rfl
 c233:=by kernel_rfl
theorem KS {P:Program} {ρ:Ren} (L:Lays.n146 P ρ) (hi9:(P.info? (ρ.t 9)).map (fun i=>(i.zero,i.size,i.bytes))=some (some (.string ByteArray.empty),1,16)) (s:ByteArray) (w:World) (hs:s.size<4294967281) :
  Calls P (ρ.f 146) #[.string s,.string ⟨#[32]⟩] w fun e w' =>
   e=.returned (.slice (some ⟨w.heap.size,0,none⟩) (Lib.countB s ⟨#[32]⟩+1) (Lib.countB s ⟨#[32]⟩+1))/\w'=w.alloc (.cells ((Lib.splitB ⟨#[32]⟩ 0 (Lib.countB s ⟨#[32]⟩) s).map Value.string).toArray (ρ.t 9)):=by
 have h1:1<=(⟨#[32]⟩:ByteArray).size:=by decide
 have hle:=Lib.countB_le ⟨#[32]⟩ h1 s.size s (QI _);have hlen:=Lib.splitB_all ⟨#[32]⟩ h1 0 _ s rfl
 have hC:Calls P (ρ.f 138) #[.string s,.string ⟨#[32]⟩] w fun e w'=>e=.returned (.int .i64 (Lib.countB s ⟨#[32]⟩))/\w'=w :=
  (Any.strings_Count_one { L with } s 32 w).mono fun e w' ⟨he,hw⟩=>⟨by
   rw [he];show _=Ending.returned (Value.int .i64 ((Lib.count s.data.toList [32]:Nat):Int));rw [Lib.count_one];rfl,hw⟩
 have hI:∀ (x:ByteArray) (c:Array Value),x.size<=s.size->Calls P (ρ.f 143) #[.string x,.string ⟨#[32]⟩] (w.alloc (.cells c (ρ.t 9))) fun e w'=>e=.returned (.int .i64 (Lib.indexB x ⟨#[32]⟩))/\w'=w.alloc (.cells c (ρ.t 9)):=fun x c _ =>
  (Any.strings_Index_one { L with } x 32 _).mono fun e w' ⟨he,hw⟩=>⟨by
   rw [he];show _=Ending.returned (Value.int .i64 (Lib.index x.data.toList [32]));rw [Lib.index_one],hw⟩
 have c:=Any.strings_genSplit_core { L with } hi9 s ⟨#[32]⟩ 0 (-1) (Lib.countB s ⟨#[32]⟩+1) w hs h1 (Re _) hI hC (by decide) (by decide) (by rw [if_pos (by decide)]; omega);rw [Nat.add_sub_cancel,hlen] at c;have e2:Lib.cellsOf (Lib.splitB ⟨#[32]⟩ 0 (Lib.countB s ⟨#[32]⟩) s) (Lib.countB s ⟨#[32]⟩+1)=((Lib.splitB ⟨#[32]⟩ 0 (Lib.countB s ⟨#[32]⟩) s).map Value.string).toArray:=by rw [<- hlen]; exact Lib.cellsOf_full _
 rw [e2] at c;have t3:=L.t3; have t9:=L.t9; have t31:=L.t31;have a3:=L.a3; have a9:=L.a9; have a31:=L.a31;have z3:=L.z3; have v3:=L.v3; have z9:=L.z9; have v9:=L.v9; have z31:=L.z31; have v31:=L.v31;have e221:∀ args w,(callFunc (ρ.f 221) args).run P w=.ok (.enter (ρ.f 221) args) w:=enters_of L.f221 (by kernel_rfl) rfl
 go_enter L.f146,Body.n146_ntmps ρ
 go_wp2_with (go_at_fn (ρ.f 221); refine c.mono ?_; rintro e w' ⟨rfl,hw⟩; rw [hw])
 go_ret
 exact ⟨rfl,rfl⟩
theorem Lq (s:ByteArray) (w:World) (hs:s.size<4294967281) :
  Calls Tryz.prog 185 #[.string s,.string ⟨#[32]⟩] w fun e w' =>
   e=.returned (.slice (some ⟨w.heap.size,0,none⟩) (Lib.countB s ⟨#[32]⟩+1) (Lib.countB s ⟨#[32]⟩+1))/\w'=w.alloc (.cells ((Lib.splitB ⟨#[32]⟩ 0 (Lib.countB s ⟨#[32]⟩) s).map Value.string).toArray 9) :=
 KS Kn (by kernel_rfl) s w hs
theorem uR:∀ (s:List UInt8),∀ p∈aj s,p.length<=s.length
 | [],p,h=>by simp [aj] at h; simp [h]
 | c::r,p,h=>by
  have ih:=uR r;unfold aj at h;split at h
  ·rcases Qs.1 h with rfl | h
   ·simp
   ·have:=ih p h;simp only [HN];omega
  ·split at h
   ·simp only [QA] at h;subst h;simp
   ·rename_i q ps e;rcases Qs.1 h with rfl | h
    ·have:=ih q (by rw [e]; simp);simp only [HN];omega
    ·have:=ih p (by rw [e]; simp [h]);simp only [HN];omega
theorem ju:∀ (s:List UInt8),(aj s).length=s.count 32+1
 | []=>rfl
 | c::r=>by
  have ih:=ju r;unfold aj;by_cases hc:c=32
  ·rw [if_pos hc,hc];simp [ih]
  ·rw [if_neg hc,List.count_cons_of_ne hc];cases e:aj r with
   | nil=>exact absurd e (yx r)
   | cons q ps =>
    rw [e] at ih;simpa using ih
theorem HT {p:PH}:∀ {xs:List (List UInt8)},(∀ x∈xs,x.length<=aK)->aN (Ty.str.holds p) xs (xs.map fun x=>Value.string ⟨x.toArray⟩)
 | [],_=>rfl
 | x::xs,h=>⟨[.string ⟨x.toArray⟩],xs.map fun x=>Value.string ⟨x.toArray⟩,rfl,⟨rfl,h x (by simp)⟩,HT (fun y hy=>h y (by simp [hy]))⟩
def F6:Spec:={ Ts:=[.str,.str],Rs:=[.dat (.arr .str)],pre:=fun (x:List UInt8×List UInt8)=>x.2=[32]/\x.1.length<4294967281,F:=fun (x:List UInt8×List UInt8)=>aj x.1 }
theorem FV (s:List UInt8) (hlen:s.length<4294967281) (w:World):Calls Tryz.prog 185 #[.string ⟨s.toArray⟩,.string ⟨#[32]⟩] w fun e w' =>
  e=.returned (.slice (some ⟨w.heap.size,0,none⟩) (aj s).length (aj s).length)/\w'=w.alloc (.cells ((aj s).map fun x=>Value.string ⟨x.toArray⟩).toArray 9):=by
 have hsz:(⟨s.toArray⟩:ByteArray).size=s.length:=by show s.toArray.size=_; simp
 refine (Lq ⟨s.toArray⟩ w (by rw [hsz]; exact hlen)).mono ?_;rintro e w' ⟨rfl,rfl⟩
 have hcnt:Lib.countB ⟨s.toArray⟩ ⟨#[32]⟩=s.count 32:=by
  show Lib.count s.toArray.toList [32]=_;rw [Lib.count_one]
 have hdat:(Lib.splitB ⟨#[32]⟩ 0 (s.count 32) ⟨s.toArray⟩).map (·.data.toList)=aj s:=by
  rw [Lib.splitB_data];exact yy _ s rfl
 have hval:(Lib.splitB ⟨#[32]⟩ 0 (s.count 32) ⟨s.toArray⟩).map Value.string=(aj s).map fun x=>Value.string ⟨x.toArray⟩:=by
  rw [<- hdat,List.map_map];rfl
 rw [hcnt,hval,ju s];exact ⟨rfl,rfl⟩
theorem GJ:F6.ok Tryz.prog 185:=by
 intro p w vs x hL hA hargs hpre
 have key:∀ s:List UInt8,s.length<4294967281->s.length<=aK->Calls Tryz.prog 185 #[.string ⟨s.toArray⟩,.string ⟨#[32]⟩] w fun e w'=>∃ (rs:List Value) (q:PH),e=.returned (cA rs)/\Keep (fun _=>False) w w'/\(∀ b cs,q b=some cs->w.heap.size<=b)/\Agrees q w' /\
   jw w' w.heap.size q q [.dat (.arr .str)] (aj s) rs []:=by
  intro s hlen hb1;refine (FV s hlen w).mono ?_;rintro e w' ⟨rfl,rfl⟩;have hn:=ju s;have hcl:s.count 32<=s.length:=List.count_le_length;have hnew:=RZ w (.cells ((aj s).map fun x=>Value.string ⟨x.toArray⟩).toArray 9);refine ⟨[.slice (some ⟨w.heap.size,0,none⟩) (aj s).length (aj s).length],fun b=>if b=w.heap.size then some (.cells ((aj s).map fun x=>Value.string ⟨x.toArray⟩).toArray) else none,rfl,⟨rfl,rfl,rfl,by simp,fun i hi _=>Below.heap_alloc w _ i hi⟩,fun b cs h=>?_,fun b cs h=>?_,?_⟩
  ·by_cases e:b=w.heap.size
   ·omega
   ·simp [e] at h
  ·by_cases e:b=w.heap.size
   ·subst e;simp only [if_true,pS] at h;subst h;exact ⟨_,_,hnew⟩
   ·simp [e] at h
  ·refine ⟨_,rfl,?_,fun b hb=>by cases hb⟩;show (Ty.arr .str).holds _ (aj s) [_];refine ⟨some ⟨w.heap.size,0,none⟩,(aj s).length,(aj s).map fun x=>Value.string ⟨x.toArray⟩,rfl,QI _,?_,HT (fun x hx=>?_),fun _=>⟨w.heap.size,0,rfl,fun j u hu=>?_⟩⟩
   ·show (aj s).length * 16<=aK;simp only [aK];omega
   ·have:=uR s x hx;omega
   ·simpa [PH.cell,Blk.get] using hu
 obtain ⟨v1,rest,rfl,h1,v2,rfl,h2⟩:=hargs;obtain ⟨h1,hb1⟩:[v1]=[Value.string ⟨(x.1:List UInt8).toArray⟩]/\(x.1:List UInt8).length<=aK:=h1;obtain ⟨h2,_⟩:[v2]=[Value.string ⟨(x.2:List UInt8).toArray⟩]/\_:=h2;obtain rfl:=(List.cons.inj h1).1;obtain rfl:=(List.cons.inj h2).1;rw [show (x.2:List UInt8)=[32] from hpre.1];exact key x.1 hpre.2 hb1
def NL:Spec:={ Ts:=[ty_I],Rs:=[.dat .str],pre:=fun _=>True,F:=fun (n:Int)=>Lib.itoa n }
theorem NE {w : World} (h : Laid w) : Lib.TabIs Tryz.prog w "internal/strconv.uint64pow10" .u64 Lib.pow10Tab := by
 obtain ⟨t,fz,e⟩:fits w 1 0 (.agg ((List.range 20).map fun i=>Value.int .u64 ((10 ^ i:Nat):Int)).toArray):=h _ (Qw _ (QJ));have hg : Tryz.prog.globalNamed "internal/strconv.uint64pow10" = some 1 := by kernel_rfl
 unfold Lib.TabIs World.var?;rw [hg];simp only [Sg,e];congr 1
theorem EM {w:World} (h:Laid w) (g:Nat) (hg:g=3\/g=4):∃ ev,w.cell? ⟨g,0,none⟩=some ev/\(ev=.nilIface\/∃ te pe,ev=.iface te pe):=by
 have hm:(g,0,Value.nilIface)∈As:=Qw _ (by rcases hg with rfl | rfl <;> simp);obtain ⟨te,pe,e⟩:fits w g 0 .nilIface:=h _ hm;exact ⟨_,e,.inr ⟨te,pe,rfl⟩⟩
theorem Hu (w:World) (k:Nat) (os:Array Go.Obj):Below w.heap.size w (Sort.grow (w.drewN k) os) :=
 ⟨rfl,rfl,rfl,by simp,fun i hi=>by simp [Sort.grow,Array.getElem?_append,hi]⟩
theorem Ip (n:Int) (hn:ak .i64 n) (w:World) (h:Laid w):Calls Tryz.prog 110 #[.int .i64 n] w fun e w'=>e=.returned (.string ⟨(Lib.itoa n).toArray⟩)/\Below w.heap.size w w':=by
 simp only [ak] at hn;refine (Any.strconv_Itoa Mx n (by omega) (by omega) w (NE h)).mono ?_;rintro e w' ⟨rfl,k,os,rfl⟩;exact ⟨rfl,Hu w k os⟩
theorem N6:NL.ok Tryz.prog 110:=by
 intro p w vs (n:Int) hL hA hargs _;obtain ⟨val,rfl,hv⟩:=hargs;obtain ⟨e,hr⟩:[val]=[Value.int .i64 n]/\ak .i64 n:=hv;obtain rfl:=(List.cons.inj e).1;refine (Ip n hr w hL).mono ?_;rintro e w' ⟨rfl,hb⟩;refine ⟨[.string ⟨(Lib.itoa n).toArray⟩],fun _=>none,rfl,⟨hb.os,hb.tape,hb.output,hb.size,fun i hi _=>hb.block i hi⟩,fun _ _ h=>(by cases h),fun _ _ h=>(by cases h),?_⟩;have:=Lib.itoa_length_le n (by simp only [ak] at hr; omega) (by simp only [ak] at hr; omega);exact ⟨_,rfl,⟨rfl,by show (Lib.itoa n).length<=aK; simp only [aK]; omega⟩,fun b hb=>by cases hb⟩
abbrev Nt (s:List UInt8) (w:World):Prop:=Calls Tryz.prog 187 #[.string ⟨s.toArray⟩] w fun e w'=>e=.returned (.tuple #[.int .i64 (f9 s).1,.bool (f9 s).2])/\Below w.heap.size w w'
theorem pI {w w':World} (h:w'=w\/∃ t,w'=Lib.bytesWorld w 5 t):Below w.heap.size w w':=by
 rcases h with rfl | ⟨t,rfl⟩
 ·exact Below.refl _ _
 ·exact Lib.bytesWorld_below _ _ _
theorem Laid.below {w w':World} (h:Laid w) (hb:Below w.heap.size w w'):Laid w':=h.of_heap fun _ _ hlt=>hb.block _ hlt
theorem Pq (s:List UInt8) (hs:s.length<=aK) (v:Int) (hv:Lib.atoiAll s=.ok v) (w:World) (h:Laid w):Nt s w:=by
 have hA:=Any.strconv_Atoi_ok wm ⟨s.toArray⟩ (by show s.toArray.size<=_; simp only [aK] at hs; simp; omega) v hv w;have hb:=Lib.atoiAll_bounds hv;have hF:f9 s=(v,decide (-1000000000000000<v/\v<1000000000000000/\Lib.itoa v=s)):=by unfold f9; rw [hv]
 unfold Nt;rw [hF];have hin:ak .i64 v:=by simp only [ak]; omega
 by_cases h1:-1000000000000000<v
 ·by_cases h2:v<1000000000000000
  ·have e1:decide (-1000000000000000<v)=true:=Rm h1;have e2:decide (v<1000000000000000)=true:=Rm h2
   go_enter Tryz.func187,Tryz.ntmps187
   go_wp2_with (go_at_call 242; refine hA.mono ?_; rintro e W1 ⟨rfl,hW⟩)
   have hb1:=pI hW;have hI:=Ip v hin W1 (h.below hb1);clear hW
   go_wp2_with (go_at_call 110; refine hI.mono ?_; rintro e W2 ⟨rfl,hb2⟩)
   go_ret2
   refine ⟨?_,hb1.trans (hb2.mono hb1.size)⟩
   have e3:(Lib.itoa v == s)=decide (-1000000000000000<v/\v<1000000000000000/\Lib.itoa v=s):=by
    apply Ry.2;simp only [ST,QP];exact ⟨fun h=>⟨h1,h2,h⟩,fun h=>h.2.2⟩
   rw [e3];rfl
  ·have e1:decide (-1000000000000000<v)=true:=Rm h1;have e2:decide (v<1000000000000000)=false:=Rz h2
   go_enter Tryz.func187,Tryz.ntmps187
   go_wp2_with (go_at_call 242; refine hA.mono ?_; rintro e W1 ⟨rfl,hW⟩)
   have hb1:=pI hW;clear hW
   go_wp2
   go_ret2
   refine ⟨?_,hb1⟩;rw [Rz (fun h=>absurd h.2.1 (by omega))];rfl
 ·have e1:decide (-1000000000000000<v)=false:=Rz h1
  go_enter Tryz.func187,Tryz.ntmps187
  go_wp2_with (go_at_call 242; refine hA.mono ?_; rintro e W1 ⟨rfl,hW⟩)
  have hb1:=pI hW;clear hW
  go_wp2
  go_ret2
  refine ⟨?_,hb1⟩;rw [Rz (fun h=>absurd h.1 (by omega))];rfl
theorem Ii (s:List UInt8) (z:Int) (w:World) (hA:Calls Tryz.prog 242 #[.string ⟨s.toArray⟩] w fun e w'=>∃ N t,e=.returned (.tuple #[.int .i64 z,.iface t (.pointer (some ⟨N,0,none⟩))])/\Below w.heap.size w w') :
  Calls Tryz.prog 187 #[.string ⟨s.toArray⟩] w fun e w'=>e=.returned (.tuple #[.int .i64 z,.bool false])/\Below w.heap.size w w':=by
 go_enter Tryz.func187,Tryz.ntmps187
 go_wp2_with (go_at_call 242; refine hA.mono ?_; rintro e W1 ⟨N,t,rfl,hb⟩)
 go_wp2
 go_ret2
 exact ⟨rfl,hb⟩
theorem Pr (s:List UInt8) (hs:s.length<=aK) (w:World) (h:Laid w):Nt s w:=by
 have hsz:(⟨s.toArray⟩:ByteArray).size=s.length:=by show s.toArray.size=_; simp
 have hlim:(⟨s.toArray⟩:ByteArray).size<=281474976710656:=by rw [hsz]; simp only [aK] at hs; omega
 cases hv:Lib.atoiAll s
 ·exact Pq s hs _ hv w h
 ·obtain ⟨ev,hc,he⟩:=EM h 3 (.inl rfl);have hF:f9 s=(0,false):=by unfold f9; rw [hv]
  unfold Nt;rw [hF];refine Ii s 0 w ((Any.strconv_Atoi_syntax wm ⟨s.toArray⟩ hlim hv ev w hc he).mono ?_);rintro e w' ⟨N,rfl,_,_,hb⟩;exact ⟨N,_,rfl,hb⟩
 ·obtain ⟨ev,hc,he⟩:=EM h 4 (.inr rfl);have hF:f9 s=(Lib.atoiSat s,false):=by unfold f9; rw [hv]
  unfold Nt;rw [hF];refine Ii s _ w ((Any.strconv_Atoi_range wm ⟨s.toArray⟩ hlim hv ev w hc he).mono ?_);rintro e w' ⟨N,rfl,_,_,hb⟩;exact ⟨N,_,rfl,hb⟩
theorem Oa (s:List UInt8):ak .i64 (f9 s).1:=by
 unfold f9;simp only [ak];split
 ·rename_i v hv;have:=Lib.atoiAll_bounds hv;simp only;omega
 ·have:=Lib.atoiSat_bounds s;simp only;omega
 ·simp only;omega
def F9:Spec:={ Ts:=[.str],Rs:=[.dat ty_I,.dat .bool],pre:=fun _=>True,F:=fun (s:List UInt8)=>f9 s }
theorem GM:F9.ok Tryz.prog 187:=by
 intro p w vs (s:List UInt8) hL hA hargs _;obtain ⟨val,rfl,hv⟩:=hargs;obtain ⟨e,hr⟩:[val]=[Value.string ⟨s.toArray⟩]/\s.length<=aK:=hv;obtain rfl:=(List.cons.inj e).1;refine (Pr s hr w hL).mono ?_;rintro e w' ⟨rfl,hb⟩;exact ⟨[.int .i64 (f9 s).1,.bool (f9 s).2],fun _=>none,rfl,⟨hb.os,hb.tape,hb.output,hb.size,fun i hi _=>hb.block i hi⟩,fun _ _ h=>(by cases h),fun _ _ h=>(by cases h),_,_,rfl,⟨rfl,Oa s⟩,(fun b hb=>by cases hb),_,rfl,rfl,fun b hb=>by cases hb⟩
end
section
theorem yq {α:Type} {a b:List α} {z:α} {i:Nat} (hl:a.length=b.length) (hi:i<a.length) (ht:a.take i=b.take i) (he:a.getD i z=b.getD i z):a.take (i+1)=b.take (i+1):=by
 rw [Q4 hi,Q4 (by omega),ht];have h1:a.getD i z=a[i]:=by simp [hi]
 have h2:b.getD i z=b[i]'(by omega):=by simp [show i<b.length by omega]
 rw [<- h1,<- h2,he]
end
section
def dt (L:Nat) (n:Int) (ks:List Int):Bool:=ks.any fun k=>decide (n<0)||decide (k<0)||decide (k > (L:Int))||decide (n > (L:Int) - k)
def eL (L:Nat) (n:Int) (ks:List Int):Int:=if 256<L then 2 else if dt L n ks then 4 else 0
def PJ (a:List Int) (i:Nat):Int:=a.getD (i / 8) 0 / 256 ^ (i % 8) % 256
def OF (a:List Int) (n:Nat):List Int:=(List.range n).map (PJ a)
def bytesOf (a:List Int):List Int:=OF a (8 * a.length)
def nums (s:List UInt8):List Int:=s.map fun b=>(b.toNat:Int)
def B0:Nat->Option LoopGen
 | 4=>some { rd:=[.dat 2 (.arr ty_I),.dat 1 ty_I,.dat 0 (.arr bi)],A:=fun (ks,n,a)=>{ cs:=[.dat 14 ty_I],inv:=fun (i:Int)=>0<=i/\i<=(ks:List Int).length/\(a:List Int).length<=256/\dt (a:List Int).length n ((ks:List Int).drop i.toNat)=dt (a:List Int).length n ks,mu:=fun (i:Int)=>((ks:List Int).length - i).toNat } }
 | _=>none
def Ay:Spec:={ Ts:=[.arr bi,ty_I,.arr ty_I],Rs:=[.dat ty_I],pre:=fun _=>True,F:=fun ((a,n,ks):List Int×Int×List Int)=>eL a.length n ks }
def qj:Prop :=
  ∀ (x:List Int×Int×List Int),((x.1.length * 8<=aK/\∀ (x_1:Int),x_1∈x.1->ak .u64 x_1)/\ak .i64 x.2.1/\x.2.2.length * 8<=aK/\∀ (x_1:Int),x_1∈x.2.2->ak .i64 x_1)->True->(decide (256<(x.1.length:Int))=true->2=eL x.1.length x.2.1 x.2.2/\True)/\(decide (256<(x.1.length:Int))=false->((0:Int)<=0/\0<=(x.2.2.length:Int)/\x.1.length<=256/\dt x.1.length x.2.1 (List.drop (Int.toNat 0) x.2.2)=dt x.1.length x.2.1 x.2.2)/\∀ (x_1:Int),0<=x_1/\x_1<=(x.2.2.length:Int)/\x.1.length<=256/\dt x.1.length x.2.1 (List.drop x_1.toNat x.2.2)=dt x.1.length x.2.1 x.2.2->(decide (x_1<(x.2.2.length:Int))=true->0<=x_1/\x_1<(x.2.2.length:Int)/\((decide (x.2.1<0)||decide (x.2.2.getD x_1.toNat (0:Int)<0)||decide ((x.1.length:Int)<x.2.2.getD x_1.toNat 0))=false->ak .i64 ((x.1.length:Int) - x.2.2.getD x_1.toNat 0))/\((decide (x.2.1<0)||decide (x.2.2.getD x_1.toNat (0:Int)<0)||decide ((x.1.length:Int)<x.2.2.getD x_1.toNat 0)||decide ((x.1.length:Int) - x.2.2.getD x_1.toNat 0<x.2.1))=true->4=eL x.1.length x.2.1 x.2.2/\True)/\((decide (x.2.1<0)||decide (x.2.2.getD x_1.toNat (0:Int)<0)||decide ((x.1.length:Int)<x.2.2.getD x_1.toNat 0)||decide ((x.1.length:Int) - x.2.2.getD x_1.toNat 0<x.2.1))=false->ak .i64 (x_1+1)/\(0<=x_1+1/\x_1+1<=(x.2.2.length:Int)/\x.1.length<=256/\dt x.1.length x.2.1 (List.drop (x_1+1).toNat x.2.2)=dt x.1.length x.2.1 x.2.2)/\((x.2.2.length:Int) - (x_1+1)).toNat<((x.2.2.length:Int) - x_1).toNat))/\(decide (x_1<(x.2.2.length:Int))=false->0=eL x.1.length x.2.1 x.2.2/\True))
theorem xq:qj:=by
 unfold qj;intro ⟨a,n,ks⟩ ⟨⟨ha,_⟩,⟨_,_⟩,hk,hks⟩ _;unfold eL aK at *;refine ⟨fun h=>?_,fun h=>⟨⟨by omega,by grind,by grind,by simp⟩,fun i ⟨h0,h1,h2,h3⟩=>⟨fun hlt=>?_,fun hge=>?_⟩⟩⟩
 ·grind
 ·have hlt:i<(ks.length:Int):=by simpa using hlt
  have e:=bI (0:Int) h0 hlt;have hm:=hks _ (aI (0:Int) h0 hlt);simp only [e] at h3;simp only [dt,Sa,ak] at *
  grind
 ·rw [cE (by simpa using hge)] at h3;simp only [dt,List.any_nil] at *
  grind
theorem A4:Ay.ok Tryz.prog 253:=aD (ann:=B0) ap Tryz.func253 (by kernel_rfl) xq
end
section
def xM:Spec:={ Ts:=[.arr bi],Rs:=[.own 45 bi],pre:=fun _=>True,F:=fun (x:List Int)=>x }
def oA:Prop :=
  ∀ (x:List Int),(x.length * 8<=aK/\∀ (x_1:Int),x_1∈x->ak .u64 x_1)->True->(x=([]:List Int)->([]:List Int)=x/\True)/\(True->(0+x.length) * 8<=aK/\([]:List Int)++x=x/\True)
theorem uE:oA:=by
 unfold oA;intro x ⟨hb,_⟩ _;simp [hb]
theorem bK:xM.ok Tryz.prog 94:=aD (ann:=cF) ap Tryz.func94 (by kernel_rfl) uE
def lD (L at_ n:Int):Bool:=decide (0<=n)&&decide (0<=at_)&&decide (at_<=L)&&decide (n<=L - at_)
theorem CG (L:Nat) (n k:Int):eL L n [k]=if 256<L then 2 else if lD L k n=true then 0 else 4:=by
 simp only [eL,dt,lD,Sa,List.any_nil]
 grind
theorem oo (L k n:Int):lD L k n=true ↔ 0<=n/\0<=k/\k<=L/\n<=L - k:=by
 simp [lD,SU]
def qH (n:Int):List Int×Int:=if n<0\/256<n then ([],4) else (List.replicate n.toNat 0,0)
def FY:Spec:={ Ts:=[ty_I],Rs:=[.own 45 bi,.dat ty_I],pre:=fun _=>True,F:=qH }
def vq:Prop :=
  ∀ (x:Int),ak .i64 x->True->((decide (x<0)||decide (256<x))=true->([]:List Int)=(qH x).1/\4=(qH x).2/\True)/\((decide (x<0)||decide (256<x))=false->0<=x/\x.toNat * 8<=aK/\List.replicate x.toNat (0:Int)=(qH x).1/\0=(qH x).2/\True)
theorem Cb:vq:=by
 unfold vq;intro n hw _;simp only [ak,qH,aK] at *
 grind
theorem GD:FY.ok Tryz.prog 54:=aD (ann:=cF) ap Tryz.func54 (by kernel_rfl) Cb
def mJ (a:List Int) (t:Nat) (ys:List Int) (k:Nat):List Int:=a.take t++(ys.take k++a.drop (t+k))
def eT (a:List Int) (at_ n v:Int) (k:Int):List Int:=mJ a at_.toNat (List.replicate n.toNat v) k.toNat
theorem Gu (a:List Int) (t:Nat) (ys:List Int):mJ a t ys 0=a:=by simp [mJ]
theorem AY (a:List Int) (t:Nat) (ys:List Int) (k:Nat) (h:t+ys.length<=a.length) (hk:k<=ys.length):(mJ a t ys k).length=a.length:=by
 simp [mJ]; omega
theorem JO (a:List Int) (t:Nat) (ys:List Int) (k:Nat) (v:Int) (h:t+ys.length<=a.length) (hk:k<ys.length) (hv:ys.getD k 0=v):(mJ a t ys k).set (t+k) v=mJ a t ys (k+1):=by
 have hv:v=ys[k]:=by rw [<- hv]; simp [hk]
 subst hv;unfold mJ;have l1:(a.take t).length=t:=by simp; omega
 have l2:(ys.take k).length=k:=by simp; omega
 rw [R5 _ _ (by omega),l1,R5 _ _ (by omega),l2,show t+k - t - k=0 by omega,Rq (show t+k<a.length by omega),List.set_cons_zero,
  Q4 hk,show t+(k+1)=t+k+1 by omega,List.append_assoc]
 rfl
theorem Ha (a:List Int) (at_ n v:Int):eT a at_ n v 0=a:=Gu _ _ _
theorem Hb (a:List Int) (at_ n v k:Int) (h0:0<=at_) (h1:at_+n<=a.length) (k0:0<=k) (k1:k<n):(eT a at_ n v k).set (at_+k).toNat v=eT a at_ n v (k+1):=by
 unfold eT;rw [show (at_+k).toNat=at_.toNat+k.toNat by omega,show (k+1).toNat=k.toNat+1 by omega];exact JO _ _ _ _ _ (by simp; omega) (by simp; omega) (by simp [show k.toNat<n.toNat by omega])
theorem gc (a:List Int) (at_ n v k:Int) (h0:0<=at_) (h1:at_+n<=a.length) (k0:0<=k) (k1:k<=n):(eT a at_ n v k).length=a.length :=
 AY _ _ _ _ (by simp; omega) (by simp; omega)
def iB (a:List Int) (at_ n v:Int):List Int×Int:=if eL a.length n [at_]=0 then (eT a at_ n v n,0) else ([],eL a.length n [at_])
def E6:Nat->Option LoopGen
 | 6=>some { rd:=[.dat 0 (.arr bi),.dat 1 ty_I,.dat 2 ty_I,.dat 3 bi],wr:=[11],A:=fun ((a,at_,n,v):List Int×Int×Int×Int)=>{ cs:=[.own 11 45 bi,.dat 24 ty_I],inv:=fun ((out,k):List Int×Int)=>0<=k/\k<=n/\0<=at_/\at_+n<=a.length/\a.length<=256/\out=eT a at_ n v k,mu:=fun ((_,k):List Int×Int)=>(n - k).toNat } }
 | _=>none
def CN:Spec:={ Ts:=[.arr bi,ty_I,ty_I,bi],Rs:=[.own 45 bi,.dat ty_I],pre:=fun _=>True,F:=fun ((a,at_,n,v):List Int×Int×Int×Int)=>iB a at_ n v }
def sL:Prop :=
  ∀ (x:List Int×Int×Int×Int),(x.1.length * 8<=aK/\∀ (x_1:Int),x_1∈x.1->ak .u64 x_1)/\ak .i64 x.2.1/\ak .i64 x.2.2.1/\ak .u64 x.2.2.2->True->True/\(decide (eL x.1.length x.2.2.1 [x.2.1]≠0)=true->([]:List Int)=(iB x.1 x.2.1 x.2.2.1 x.2.2.2).1/\eL x.1.length x.2.2.1 [x.2.1]=(iB x.1 x.2.1 x.2.2.1 x.2.2.2).2/\True)/\(decide (eL x.1.length x.2.2.1 [x.2.1]≠0)=false->True/\((0:Int)<=0/\0<=x.2.2.1/\0<=x.2.1/\x.2.1+x.2.2.1<=(x.1.length:Int)/\x.1.length<=256/\x.1=eT x.1 x.2.1 x.2.2.1 x.2.2.2 0)/\∀ (x_1:List Int×Int),0<=x_1.2/\x_1.2<=x.2.2.1/\0<=x.2.1/\x.2.1+x.2.2.1<=(x.1.length:Int)/\x.1.length<=256/\x_1.1=eT x.1 x.2.1 x.2.2.1 x.2.2.2 x_1.2->(decide (x_1.2<x.2.2.1)=true->ak .i64 (x.2.1+x_1.2)/\0<=x.2.1+x_1.2/\x.2.1+x_1.2<(x_1.1.length:Int)/\(x.2.1+x_1.2).toNat<x_1.1.length/\ak .i64 (x_1.2+1)/\(0<=x_1.2+1/\x_1.2+1<=x.2.2.1/\0<=x.2.1/\x.2.1+x.2.2.1<=(x.1.length:Int)/\x.1.length<=256/\x_1.1.set (x.2.1+x_1.2).toNat x.2.2.2=eT x.1 x.2.1 x.2.2.1 x.2.2.2 (x_1.2+1))/\(x.2.2.1 - (x_1.2+1)).toNat<(x.2.2.1 - x_1.2).toNat)/\(decide (x_1.2<x.2.2.1)=false->x_1.1=(iB x.1 x.2.1 x.2.2.1 x.2.2.2).1/\0=(iB x.1 x.2.1 x.2.2.1 x.2.2.2).2/\True))
theorem zO:sL:=by
 unfold sL;intro ⟨a,at_,n,v⟩ ⟨⟨ha,_⟩,h1,h2,_⟩ _;simp only [iB,CG] at *;by_cases cl:256<a.length
 ·simp [cl]
 by_cases ok:lD a.length at_ n=true
 ·obtain ⟨o1,o2,o3,o4⟩:=(oo _ _ _).1 ok;simp only [cl,ok,if_true,QW];refine ⟨trivial,fun h=>by simp at h,fun _=>⟨trivial,⟨by omega,o1,o2,by omega,by omega,(Ha _ _ _ _).symm⟩,fun ⟨out,k⟩ ⟨k0,k1,_,q1,q2,q3⟩=>⟨fun hk=>?_,fun hk=>?_⟩⟩⟩
  ·have hk:k<n:=by simpa using hk
   simp only at *;have hl:out.length=a.length:=by rw [q3]; exact gc _ _ _ _ _ o2 q1 k0 k1
   refine ⟨by simp only [ak]; omega,by omega,by omega,by omega,by simp only [ak]; omega,⟨by omega,by omega,o2,q1,q2,?_⟩,by omega⟩;rw [q3];exact Hb _ _ _ _ _ o2 q1 k0 hk
  ·have hk:¬ k<n:=by simpa using hk
   simp only at *;have:k=n:=by omega
   subst this;simp [q3]
 ·simp [cl,ok]
theorem ni:CN.ok Tryz.prog 218:=aD (ann:=E6) (ae A4 (ae bK ap)) Tryz.func218 (by kernel_rfl) zO
end
section
def ag {α:Type} (f:α->Bool):Int->List α->Int
 | _,[]=>-1
 | k,x::l=>if f x then k else ag f (k+1) l
theorem eS {α:Type} (f:α->Bool):∀ (l:List α) (k:Int),ag f k l=-1\/(k<=ag f k l/\ag f k l<k+l.length)
 | [],_=>.inl rfl
 | x::l,k=>by
  have ih:=eS f l (k+1);simp only [ag,HN];split
  ·right; omega
  ·rcases ih with h | h
   ·exact .inl h
   ·right; omega
theorem em {α:Type} (f:α->Bool) (_:α) (l:List α) (k:Int) (_:0<=k):ag f k l<k+l.length:=by
 rcases eS f l k with h | h <;> omega
theorem eo {α:Type} (f:α->Bool) (d:α):∀ (l:List α) (k:Int),0<=ag f k l->0<=k->f (l.getD (ag f k l - k).toNat d)=true
 | [],_,h,_=>by simp [ag] at h
 | x::l,k,h,hk=>by
  have hr:=eS f l (k+1);have ih:=eo f d l (k+1);simp only [ag] at h |-;split at h
  ·rename_i hx;rw [if_pos hx];simpa using hx
  ·rename_i hx;rw [if_neg hx];have:=ih h (by omega);rw [show (ag f (k+1) l - k).toNat=(ag f (k+1) l - (k+1)).toNat+1 by omega];simpa using this
theorem ep {α:Type} (f:α->Bool):∀ (l:List α) (k:Int),0<=k->(decide (0<=ag f k l)=l.any f)
 | [],_,_=>rfl
 | x::l,k,h=>by
  have ih:=ep f l (k+1) (by omega);simp only [ag,Sa];by_cases hx:f x=true
  ·simp [hx,h]
  ·have hx:f x=false:=by simpa using hx
   simp only [hx,Qz,QW,Sv];exact ih
end
section
abbrev dY:=Int×Int×Int×Bool
def aa (h:dY):Int:=1+h.1+h.2.1
def af (h:dY):Int :=
 if h.1<0\/256<h.1\/h.2.1<0\/256<h.2.1\/h.2.2.1<0\/65535<h.2.2.1 then 4
 else if h.2.2.2=true/\(h.1≠0\/h.2.2.1≠0) then 3
 else if 256<aa h then 2 else 0
def aC (h:dY):Int:=h.1+65536 * h.2.1+4294967296 * h.2.2.1+(if h.2.2.2 then 281474976710656 else 0)
def aW (v:Int):dY:=(v % 65536,v / 65536 % 65536,v / 4294967296 % 65536,decide (v / 281474976710656=1))
def bg (v:Int):Bool:=v / 281474976710656<=1&&af (aW v) == 0
def bR:dY:=(0,0,0,false)
theorem a7 {h:dY} (h0:af h=0):0<=h.1/\0<=h.2.1/\0<=h.2.2.1/\h.2.2.1<=65535/\1+h.1+h.2.1<=256/\(h.2.2.2=true->h.1=0/\h.2.2.1=0):=by
 grind [af,aa]
theorem xZ {h:dY} (h0:af h=0) :
  (↑((IntKind.u64.wrap h.1).toNat ||| (IntKind.u64.wrap (IntKind.u64.wrap h.2.1 * 2 ^ Int.toNat 16)).toNat):Int)=h.1+65536 * h.2.1 /\
  (↑((h.1+65536 * h.2.1).toNat ||| (IntKind.u64.wrap (IntKind.u64.wrap h.2.2.1 * 2 ^ Int.toNat 32)).toNat):Int)=h.1+65536 * h.2.1+4294967296 * h.2.2.1 /\
  (↑((h.1+65536 * h.2.1+4294967296 * h.2.2.1).toNat ||| Int.toNat 281474976710656):Int)=h.1+65536 * h.2.1+4294967296 * h.2.2.1+281474976710656:=by
 obtain ⟨h1,h2,h3,h4,h5,_⟩:=a7 h0;rw [eY h1 (by omega),eY h2 (by omega),eY h3 (by omega)];have e1:(h.2.1 * 2 ^ Int.toNat 16)=h.2.1 * 65536:=rfl;have e2:(h.2.2.1 * 2 ^ Int.toNat 32)=h.2.2.1 * 4294967296:=rfl;rw [e1,e2,eY (by omega) (by omega),eY (by omega) (by omega)];have k1:=nY (i:=16) h1 h2 (by omega);have k2:=nY (i:=32) (a:=h.1+65536 * h.2.1) (by omega) h3 (by omega);have k3:=nY (i:=48) (a:=h.1+65536 * h.2.1+4294967296 * h.2.2.1) (b:=1) (by omega) (by omega) (by omega);refine ⟨?_,?_,?_⟩
 ·rw [show h.2.1 * 65536=h.2.1 * 2 ^ 16 from rfl,k1]; omega
 ·rw [show h.2.2.1 * 4294967296=h.2.2.1 * 2 ^ 32 from rfl,k2]; omega
 ·rw [show Int.toNat 281474976710656=((1:Int) * 2 ^ 48).toNat from rfl,k3]; rfl
theorem Ep {v:Int} (h0:0<=v) :
  (IntKind.i64.wrap ↑(v.toNat &&& Int.toNat 65535),IntKind.i64.wrap ↑((v / 2 ^ Int.toNat 16).toNat &&& Int.toNat 65535),IntKind.i64.wrap ↑((v / 2 ^ Int.toNat 32).toNat &&& Int.toNat 65535),
   decide (((v.toNat &&& Int.toNat 281474976710656:Nat):Int)≠0))=(v % 65536,v / 65536 % 65536,v / 4294967296 % 65536,decide (v / 281474976710656 % 2=1)):=by
 have e:Int.toNat 65535=2 ^ 16 - 1:=rfl;have e2:Int.toNat 281474976710656=2 ^ 48:=rfl;have e3:v / 2 ^ Int.toNat 16=v / 65536:=rfl;have e4:v / 2 ^ Int.toNat 32=v / 4294967296:=rfl;rw [e,e2,e3,e4,nn h0,nn (by omega),nn (by omega),My h0];rw [show (2:Int) ^ 16=65536 from rfl,show (2:Int) ^ 48=281474976710656 from rfl];rw [jT (by omega) (by omega),jT (by omega) (by omega),jT (by omega) (by omega)];congr 3;apply SS.2;omega
theorem zx {v:Int} (h1:v / 281474976710656<=1) (h0:0<=v):(v % 65536,v / 65536 % 65536,v / 4294967296 % 65536,decide (v / 281474976710656 % 2=1))=aW v:=by
 simp only [aW];congr 3;apply SS.2;omega
def C5:Spec:={ Ts:=[ia],Rs:=[.dat ty_I],pre:=fun (h:dY)=>ak .i64 (1+h.1)/\ak .i64 (1+h.1+h.2.1),F:=aa }
def s6:Prop :=
  ∀ (x:Int×Int×Int×Bool),ak .i64 x.1/\ak .i64 x.2.1/\ak .i64 x.2.2.1/\True->ak .i64 (1+x.1)/\ak .i64 (1+x.1+x.2.1)->ak .i64 (1+x.1)/\ak .i64 (1+x.1+x.2.1)/\1+x.1+x.2.1=aa x/\True
theorem Aa:s6:=by
 unfold s6;intro x h1 h2;exact ⟨h2.1,h2.2,rfl,trivial⟩
theorem tC:C5.ok Tryz.prog 79:=aD (ann:=cF) ap Tryz.func79 (by kernel_rfl) Aa
def AE:Spec:={ Ts:=[ia],Rs:=[.dat ty_I],pre:=fun _=>True,F:=af }
def qp:Prop :=
  ∀ (x:Int×Int×Int×Bool),ak .i64 x.1/\ak .i64 x.2.1/\ak .i64 x.2.2.1/\True->True->((decide ((if x.2.2.1<if x.2.1<x.1 then x.2.1 else x.1 then x.2.2.1 else if x.2.1<x.1 then x.2.1 else x.1)<0)||decide (256<if x.1<x.2.1 then x.2.1 else x.1)||decide (65535<x.2.2.1))=true->4=af x/\True)/\((decide ((if x.2.2.1<if x.2.1<x.1 then x.2.1 else x.1 then x.2.2.1 else if x.2.1<x.1 then x.2.1 else x.1)<0)||decide (256<if x.1<x.2.1 then x.2.1 else x.1)||decide (65535<x.2.2.1))=false->((x.2.2.2&&(decide (0<x.1)||decide (0<x.2.2.1)))=true->3=af x/\True)/\((x.2.2.2&&(decide (0<x.1)||decide (0<x.2.2.1)))=false->(ak .i64 (1+x.1)/\ak .i64 (1+x.1+x.2.1))/\(decide (256<aa x)=true->2=af x/\True)/\(decide (256<aa x)=false->0=af x/\True)))
theorem xx:qp:=by
 unfold qp;intro x h1 _
 grind [ak,af,aa]
theorem jC:AE.ok Tryz.prog 78:=aD (ann:=cF) (ae tC ap) Tryz.func78 (by kernel_rfl) xx
def C3:Spec:={ Ts:=[ia],Rs:=[.dat bi,.dat ty_I],pre:=fun _=>True,F:=fun (h:dY)=>((if af h=0 then aC h else 0,af h):Int×Int) }
def sZ:Prop :=
  ∀ (x:Int×Int×Int×Bool),ak .i64 x.1/\ak .i64 x.2.1/\ak .i64 x.2.2.1/\True->True->True/\(decide (af x≠0)=true->((0:Int)=if af x=0 then aC x else (0:Int))/\af x=af x/\True)/\(decide (af x≠0)=false->(0:Int)<=16/\16<(↑IntKind.u64.bits:Int)/\(0:Int)<=32/\32<(↑IntKind.u64.bits:Int)/\(x.2.2.2=true->((↑((↑((↑((IntKind.u64.wrap x.1).toNat ||| (IntKind.u64.wrap (IntKind.u64.wrap x.2.1 * 2 ^ Int.toNat 16)).toNat):Int).toNat ||| (IntKind.u64.wrap (IntKind.u64.wrap x.2.2.1 * 2 ^ Int.toNat 32)).toNat):Int).toNat ||| Int.toNat 281474976710656):Int)=if af x=0 then aC x else (0:Int))/\0=af x/\True)/\(x.2.2.2=false->((↑((↑((IntKind.u64.wrap x.1).toNat ||| (IntKind.u64.wrap (IntKind.u64.wrap x.2.1 * 2 ^ Int.toNat 16)).toNat):Int).toNat ||| (IntKind.u64.wrap (IntKind.u64.wrap x.2.2.1 * 2 ^ Int.toNat 32)).toNat):Int)=if af x=0 then aC x else (0:Int))/\0=af x/\True))
theorem z7:sZ:=by
 unfold sZ;intro x hw _;refine ⟨trivial,fun h=>?_,fun h=>?_⟩
 ·have:af x≠0:=by simpa using h
  simp [this]
 ·have h0:af x=0:=by simpa using h
  obtain ⟨b1,b2,b3⟩:=xZ h0;refine ⟨by decide,by decide,by decide,by decide,fun hf=>?_,fun hf=>?_⟩
  ·rw [b1,b2,b3,if_pos h0,h0];exact ⟨by simp [aC,hf],rfl,trivial⟩
  ·rw [b1,b2,if_pos h0,h0];exact ⟨by simp [aC,hf],rfl,trivial⟩
theorem jc:C3.ok Tryz.prog 56:=aD (ann:=cF) (ae jC ap) Tryz.func56 (by kernel_rfl) z7
def AD:Spec:={ Ts:=[ia],Rs:=[.dat ty_I,.dat ty_I],pre:=fun _=>True,F:=fun (h:dY)=>((if af h=0 then aa h else 0,af h):Int×Int) }
def qo:Prop :=
  ∀ (x:Int×Int×Int×Bool),ak .i64 x.1/\ak .i64 x.2.1/\ak .i64 x.2.2.1/\True->True->True/\(decide (af x≠0)=true->((0:Int)=if af x=0 then aa x else (0:Int))/\af x=af x/\True)/\(decide (af x≠0)=false->(ak .i64 (1+x.1)/\ak .i64 (1+x.1+x.2.1))/\(aa x=if af x=0 then aa x else (0:Int))/\0=af x/\True)
theorem xw:qo:=by
 unfold qo;intro x hw _;refine ⟨trivial,fun h=>?_,fun h=>?_⟩
 ·have:af x≠0:=by simpa using h
  simp [this]
 ·have h0:af x=0:=by simpa using h
  obtain ⟨b1,b2,b3,b4,b5,_⟩:=a7 h0;simp only [ak,h0,if_true,SI];omega
theorem jB:AD.ok Tryz.prog 20:=aD (ann:=cF) (ae jC (ae tC ap)) Tryz.func20 (by kernel_rfl) xw
def C4:Spec:={ Ts:=[bi],Rs:=[.dat ia,.dat ty_I],pre:=fun _=>True,F:=fun (v:Int)=>((if bg v then aW v else bR,if bg v then 0 else 3):dY×Int) }
def s5:Prop :=
  ∀ (x:Int),ak .u64 x->True->(0:Int)<=16/\16<(↑IntKind.u64.bits:Int)/\(0:Int)<=32/\32<(↑IntKind.u64.bits:Int)/\(0:Int)<=49/\49<(↑IntKind.u64.bits:Int)/\(decide (x / 2 ^ Int.toNat (49:Int)≠0)=false->True)/\((decide (x / 2 ^ Int.toNat (49:Int)≠0)||decide (af (IntKind.i64.wrap (↑(x.toNat &&& Int.toNat 65535):Int),IntKind.i64.wrap (↑((x / 2 ^ Int.toNat 16).toNat &&& Int.toNat 65535):Int),IntKind.i64.wrap (↑((x / 2 ^ Int.toNat 32).toNat &&& Int.toNat 65535):Int),decide ((↑(x.toNat &&& Int.toNat 281474976710656):Int)≠0))≠0))=true->((0,0,0,false)=if bg x=true then aW x else bR)/\((3:Int)=if bg x=true then (0:Int) else (3:Int))/\True)/\((decide (x / 2 ^ Int.toNat (49:Int)≠0)||decide (af (IntKind.i64.wrap (↑(x.toNat &&& Int.toNat 65535):Int),IntKind.i64.wrap (↑((x / 2 ^ Int.toNat 16).toNat &&& Int.toNat 65535):Int),IntKind.i64.wrap (↑((x / 2 ^ Int.toNat 32).toNat &&& Int.toNat 65535):Int),decide ((↑(x.toNat &&& Int.toNat 281474976710656):Int)≠0))≠0))=false->((IntKind.i64.wrap (↑(x.toNat &&& Int.toNat 65535):Int),IntKind.i64.wrap (↑((x / 2 ^ Int.toNat 16).toNat &&& Int.toNat 65535):Int),IntKind.i64.wrap (↑((x / 2 ^ Int.toNat 32).toNat &&& Int.toNat 65535):Int),decide ((↑(x.toNat &&& Int.toNat 281474976710656):Int)≠0))=if bg x=true then aW x else bR)/\((0:Int)=if bg x=true then (0:Int) else (3:Int))/\True)
theorem z8:s5:=by
 unfold s5;intro x hw _;have hx:0<=x:=hw.1;rw [Ep hx,show x / 2 ^ Int.toNat 49=x / 562949953421312 from rfl];refine ⟨by decide,by decide,by decide,by decide,by decide,by decide,fun _=>trivial,fun h=>?_,fun h=>?_⟩
 ·have:bg x=false:=by
   rcases Int.lt_or_le 1 (x / 281474976710656) with h1 | h1
   ·simp [bg,show ¬ x / 281474976710656<=1 by omega]
   ·rw [zx h1 hx] at h;have e:x / 562949953421312=0:=by omega
    simp only [e,ne_eq,not_true_eq_false,decide_false,Sv,QP] at h;simp [bg,h]
  simp [this,bR]
 ·have h1:x / 281474976710656<=1:=by
   have:x / 562949953421312=0:=by
    apply Rc;intro hne;simp [hne] at h
   omega
  rw [zx h1 hx] at h |-
  have:bg x=true:=by
   simp only [Rn,Rh,ne_eq,Classical.not_not] at h;simp [bg,h1,h.2]
  simp [this]
theorem D7:C4.ok Tryz.prog 222:=aD (ann:=cF) (ae jC ap) Tryz.func222 (by kernel_rfl) z8
end
section
abbrev cM:Ty:=.pair ty_I ia
abbrev aw:=Int×dY
theorem eg {v:Int} (h:bg v=true):1<=aa (aW v)/\aa (aW v)<=256:=by
 simp only [bg,CF,ST] at h;have:=a7 h.2;unfold aa;omega
def spotsS (at_:Int) (l:List Int):Option (List aw) :=
 match l with
 | []=>some []
 | v::r=>if _h:bg v=true/\aa (aW v)<=((v::r).length:Int) then (spotsS (at_+aa (aW v)) ((v::r).drop (aa (aW v)).toNat)).map ((at_,aW v)::·) else none
termination_by l.length
decreasing_by
 have:=eg _h.1;simp only [QH,HN];omega
def ac (a:List Int):List aw×Int:=if 256<a.length then ([],2) else match spotsS 0 a with
 | none=>([],3)
 | some l=>(l,0)
theorem cT {at_:Int} {v:Int} {r:List Int} (h:bg v=true) (h2:aa (aW v)<=((v::r).length:Int)) :
  spotsS at_ (v::r)=(spotsS (at_+aa (aW v)) ((v::r).drop (aa (aW v)).toNat)).map ((at_,aW v)::·):=by
 rw [spotsS,dif_pos ⟨h,h2⟩]
theorem eZ {at_:Int} {v:Int} {r:List Int} (h:¬ (bg v=true/\aa (aW v)<=((v::r).length:Int))):spotsS at_ (v::r)=none:=by
 rw [spotsS,dif_neg h]
theorem rC (at_:Int) (l:List Int) (r:List aw) (h:spotsS at_ l=some r):∀ s∈r,at_<=s.1/\s.1+aa s.2<=at_+l.length/\af s.2=0:=by
 induction at_,l using spotsS.induct generalizing r with
 | case1 at_ =>
  simp only [spotsS,pS] at h;subst h;simp
 | case2 at_ v l hv ih =>
  rw [cT hv.1 hv.2] at h;obtain ⟨r',hr,rfl⟩:=Dm.1 h;have hl:=eg hv.1
  have hf:af (aW v)=0:=by
   have:=hv.1;simp only [bg,CF,ST] at this;exact this.2
  intro s hs;rcases Qs.1 hs with rfl | hs
  ·have:=hv.2;exact ⟨by simp,by simp only; omega,hf⟩
  ·obtain ⟨h1,h2,h3⟩:=ih r' hr s hs;rw [QH] at h2;have:=hv.2;exact ⟨by omega,by omega,h3⟩
 | case3 at_ v l hv =>
  rw [eZ hv] at h;cases h
theorem xG (at_:Int) (l:List Int) (r:List aw) (h:spotsS at_ l=some r):r.length<=l.length:=by
 induction at_,l using spotsS.induct generalizing r with
 | case1 at_ =>
  simp only [spotsS,pS] at h;subst h;simp
 | case2 at_ v l hv ih =>
  rw [cT hv.1 hv.2] at h;obtain ⟨r',hr,rfl⟩:=Dm.1 h;have hl:=eg hv.1;have:=ih r' hr;rw [QH] at this;simp only [HN] at *;omega
 | case3 at_ v l hv =>
  rw [eZ hv] at h;cases h
theorem fw (a:List Int):(ac a).1.length<=256:=by
 unfold ac;split
 ·simp
 ·cases e:spotsS 0 a with
  | none=>simp
  | some l =>
   have:=xG 0 a l e;simp only;omega
def BX:Nat->Option LoopGen
 | 5=>some { rd:=[.dat 0 (.arr bi)],A:=fun (a:List Int)=>{ cs:=[.own 4 202 cM,.dat 5 ty_I],inv:=fun ((out,at_):List aw×Int)=>a.length<=256/\0<=at_/\at_<=a.length/\out.length<=at_/\spotsS 0 a=(spotsS at_ (a.drop at_.toNat)).map (out++·),mu:=fun ((_,at_):List aw×Int)=>(a.length - at_).toNat } }
 | _=>none
def Au:Spec:={ Ts:=[.arr bi],Rs:=[.own 202 cM,.dat ty_I],pre:=fun _=>True,F:=ac }
def qf:Prop :=
  ∀ (x:List Int),(x.length * 8<=aK/\∀ (x_1:Int),x_1∈x->ak .u64 x_1)->True->(decide (256<(x.length:Int))=true->([]:List (Int×Int×Int×Int×Bool))=(ac x).1/\2=(ac x).2/\True)/\(decide (256<(x.length:Int))=false->(x.length<=256/\(0:Int)<=0/\0<=(x.length:Int)/\(↑(0:Nat):Int)<=0/\spotsS 0 x=Option.map (fun (x:List aw)=>([]:List (Int×Int×Int×Int×Bool))++x) (spotsS 0 (List.drop (Int.toNat 0) x)))/\∀ (x_1:List (Int×Int×Int×Int×Bool)×Int),x.length<=256/\0<=x_1.2/\x_1.2<=(x.length:Int)/\(x_1.1.length:Int)<=x_1.2/\spotsS 0 x=Option.map (fun (x:List aw)=>x_1.1++x) (spotsS x_1.2 (List.drop x_1.2.toNat x))->(decide (x_1.2<(x.length:Int))=true->0<=x_1.2/\x_1.2<(x.length:Int)/\True/\True/\(decide ((if bg (x.getD x_1.2.toNat 0)=true then (0:Int) else (3:Int))≠0)=false->ak .i64 ((x.length:Int) - x_1.2))/\((decide ((if bg (x.getD x_1.2.toNat 0)=true then (0:Int) else (3:Int))≠0)||decide ((x.length:Int) - x_1.2<if af (if bg (x.getD x_1.2.toNat 0)=true then aW (x.getD x_1.2.toNat 0) else bR)=0 then aa (if bg (x.getD x_1.2.toNat 0)=true then aW (x.getD x_1.2.toNat 0) else bR) else (0:Int)))=true->([]:List (Int×Int×Int×Int×Bool))=(ac x).1/\3=(ac x).2/\True)/\((decide ((if bg (x.getD x_1.2.toNat 0)=true then (0:Int) else (3:Int))≠0)||decide ((x.length:Int) - x_1.2<if af (if bg (x.getD x_1.2.toNat 0)=true then aW (x.getD x_1.2.toNat 0) else bR)=0 then aa (if bg (x.getD x_1.2.toNat 0)=true then aW (x.getD x_1.2.toNat 0) else bR) else (0:Int)))=false->(x_1.1.length+[(x_1.2,if bg (x.getD x_1.2.toNat 0)=true then aW (x.getD x_1.2.toNat 0) else bR)].length) * (8+(8+(8+(8+8))))<=aK/\ak .i64 (x_1.2+if af (if bg (x.getD x_1.2.toNat 0)=true then aW (x.getD x_1.2.toNat 0) else bR)=0 then aa (if bg (x.getD x_1.2.toNat 0)=true then aW (x.getD x_1.2.toNat 0) else bR) else (0:Int))/\(x.length<=256/\(0<=x_1.2+if af (if bg (x.getD x_1.2.toNat 0)=true then aW (x.getD x_1.2.toNat 0) else bR)=0 then aa (if bg (x.getD x_1.2.toNat 0)=true then aW (x.getD x_1.2.toNat 0) else bR) else (0:Int))/\(x_1.2+if af (if bg (x.getD x_1.2.toNat 0)=true then aW (x.getD x_1.2.toNat 0) else bR)=0 then aa (if bg (x.getD x_1.2.toNat 0)=true then aW (x.getD x_1.2.toNat 0) else bR) else (0:Int))<=(x.length:Int)/\((↑(x_1.1++[(x_1.2,if bg (x.getD x_1.2.toNat 0)=true then aW (x.getD x_1.2.toNat 0) else bR)]).length:Int)<=x_1.2+if af (if bg (x.getD x_1.2.toNat 0)=true then aW (x.getD x_1.2.toNat 0) else bR)=0 then aa (if bg (x.getD x_1.2.toNat 0)=true then aW (x.getD x_1.2.toNat 0) else bR) else (0:Int))/\spotsS 0 x=Option.map (fun (x_2:List aw)=>x_1.1++[(x_1.2,if bg (x.getD x_1.2.toNat 0)=true then aW (x.getD x_1.2.toNat 0) else bR)]++x_2) (spotsS (x_1.2+if af (if bg (x.getD x_1.2.toNat 0)=true then aW (x.getD x_1.2.toNat 0) else bR)=0 then aa (if bg (x.getD x_1.2.toNat 0)=true then aW (x.getD x_1.2.toNat 0) else bR) else (0:Int)) (List.drop (x_1.2+if af (if bg (x.getD x_1.2.toNat 0)=true then aW (x.getD x_1.2.toNat 0) else bR)=0 then aa (if bg (x.getD x_1.2.toNat 0)=true then aW (x.getD x_1.2.toNat 0) else bR) else (0:Int)).toNat x)))/\((x.length:Int) - (x_1.2+if af (if bg (x.getD x_1.2.toNat 0)=true then aW (x.getD x_1.2.toNat 0) else bR)=0 then aa (if bg (x.getD x_1.2.toNat 0)=true then aW (x.getD x_1.2.toNat 0) else bR) else (0:Int))).toNat<((x.length:Int) - x_1.2).toNat))/\(decide (x_1.2<(x.length:Int))=false->x_1.1=(ac x).1/\0=(ac x).2/\True))
theorem xm:qf:=by
 unfold qf;intro a ⟨hb,hw⟩ _;by_cases cl:256<a.length
 ·have e:ac a=([],2):=by unfold ac; rw [if_pos cl]
  simp [e];omega
 have eF:ac a=match spotsS 0 a with | none=>([],3) | some l=>(l,0):=by unfold ac; rw [if_neg cl]
 refine ⟨fun h=>by simp at h; omega,fun _=>⟨⟨by omega,by omega,by omega,by simp,by simp⟩,fun ⟨out,k⟩ ⟨_,h0,h1,h2,h3⟩=>⟨fun hlt=>?_,fun hge=>?_⟩⟩⟩
 ·have hlt:k<(a.length:Int):=by simpa using hlt
  simp only at *;rw [bI (0:Int) h0 hlt] at h3;have hdl:(((a.getD k.toNat 0::a.drop (k+1).toNat).length:Nat):Int)=a.length - k:=by rw [HN,QH]; omega
  have hdd:∀ n:Int,0<=n->(a.getD k.toNat 0::a.drop (k+1).toNat).drop n.toNat=a.drop (k+n).toNat:=fun n hn=>by
   rw [<- bI (0:Int) h0 hlt,RM];congr 1;omega
  generalize a.getD k.toNat 0=v at *;refine ⟨h0,hlt,trivial,trivial,fun _=>by simp only [ak]; omega,fun hc=>?_,fun hc=>?_⟩
  ·have hn:¬ (bg v=true/\aa (aW v)<=((v::a.drop (k+1).toNat).length:Int)):=by
    rintro ⟨g1,g2⟩
    have hf:af (aW v)=0:=by
     have:=g1;simp only [bg,CF,ST] at this;exact this.2
    rw [if_pos g1,if_pos g1,if_pos hf] at hc;simp at hc;omega
   rw [eZ hn] at h3;rw [eF,h3];exact ⟨rfl,rfl,trivial⟩
  ·have g1:bg v=true:=by
    cases hv:bg v
    ·rw [hv] at hc; simp at hc
    ·rfl
   have hf:af (aW v)=0:=by
    have:=g1;simp only [bg,CF,ST] at this;exact this.2
   rw [if_pos g1,if_pos g1,if_pos hf] at hc;simp at hc;have hl:=eg g1;rw [cT g1 (by omega),hdd _ (by omega),Option.map_map] at h3;rw [if_pos g1,if_pos hf];unfold aK;simp only [KK,HN,QQ,ak];refine ⟨by omega,by omega,⟨by omega,by omega,by omega,by omega,?_⟩,by omega⟩;rw [h3];congr 1;funext x;simp
 ·have hge:¬ k<(a.length:Int):=by simpa using hge
  simp only at *;rw [cE hge] at h3;simp only [spotsS,Q6,Q8] at h3;rw [eF,h3];exact ⟨rfl,rfl,trivial⟩
theorem jz:Au.ok Tryz.prog 161:=aD (ann:=BX) (ae D7 (ae jB ap)) Tryz.func161 (by kernel_rfl) xm
def aQ (a:List Int) (s:aw):List Int:=(a.take (s.1+1+s.2.1).toNat).drop (s.1+1).toNat
def du (a:List Int) (s:aw):Prop:=0<=s.1/\0<=s.2.1/\0<=s.2.2.1/\s.1+1+s.2.1+s.2.2.1<=a.length
def CO:Spec:={ Ts:=[.arr bi,cM],Rs:=[.dat (.arr bi)],al:=true,pre:=fun ((a,s):List Int×aw)=>a.length<=256/\du a s,F:=fun ((a,s):List Int×aw)=>aQ a s }
def sM:Prop :=
  ∀ (x:List Int×Int×Int×Int×Int×Bool),(x.1.length * 8<=aK/\∀ (x_1:Int),x_1∈x.1->ak .u64 x_1)/\ak .i64 x.2.1/\ak .i64 x.2.2.1/\ak .i64 x.2.2.2.1/\ak .i64 x.2.2.2.2.1/\True->x.1.length<=256/\du x.1 x.2->ak .i64 (x.2.1+1)/\ak .i64 (x.2.1+1)/\ak .i64 (x.2.1+1+x.2.2.1)/\0<=x.2.1+1/\x.2.1+1<=x.2.1+1+x.2.2.1/\x.2.1+1+x.2.2.1<=(x.1.length:Int)/\List.drop (x.2.1+1).toNat (List.take (x.2.1+1+x.2.2.1).toNat x.1)=aQ x.1 x.2/\True
theorem zP:sM:=by
 unfold sM;intro ⟨a,s⟩ _ ⟨h,h1,h2,h3,h4⟩;simp only [ak,aQ] at *;exact ⟨by omega,by omega,by omega,by omega,by omega,by omega,trivial,trivial⟩
theorem tu:CO.ok Tryz.prog 224:=aD (ann:=cF) ap Tryz.func224 (by kernel_rfl) zP
def ew (m:List (Int×Int)) (i:Int):List aw->List (Int×Int)
 | []=>m
 | s::l=>ew (if s.2.2.2.2=true then m else gp m (s.1+1) i) (i+1) l
def cI (l:List aw):List (Int×Int):=ew [(0,-1)] 0 l
def yk:Nat->Option LoopGen
 | 3=>some { rd:=[.dat 8 (.arr cM)],A:=fun (l:List aw)=>{ cs:=[.map 6 .u64 ty_I,.dat 10 ty_I],inv:=fun ((m,i):List (Int×Int)×Int)=>0<=i/\i<=l.length/\(∀ s∈l,0<=s.1/\s.1<=256)/\ew m i (l.drop i.toNat)=cI l,mu:=fun ((_,i):List (Int×Int)×Int)=>(l.length - i).toNat } }
 | _=>none
def xH:Spec:={ Ts:=[.arr cM],Rs:=[.map .u64 ty_I],pre:=fun (l:List aw)=>∀ s∈l,0<=s.1/\s.1<=256,F:=cI }
def ot:Prop :=
  ∀ (x:List (Int×Int×Int×Int×Bool)),(x.length * (8+(8+(8+(8+8))))<=aK/\∀ (x_1:Int×Int×Int×Int×Bool),x_1∈x->ak .i64 x_1.1/\ak .i64 x_1.2.1/\ak .i64 x_1.2.2.1/\ak .i64 x_1.2.2.2.1/\True)->(∀ (s:aw),s∈x->0<=s.1/\s.1<=256)->((0:Int)<=0/\0<=(x.length:Int)/\(∀ (s:aw),s∈x->0<=s.1/\s.1<=256)/\ew (gp ([]:List (Int×Int)) 0 (-1)) 0 (List.drop (Int.toNat 0) x)=cI x)/\∀ (x_1:List (Int×Int)×Int),0<=x_1.2/\x_1.2<=(x.length:Int)/\(∀ (s:aw),s∈x->0<=s.1/\s.1<=256)/\ew x_1.1 x_1.2 (List.drop x_1.2.toNat x)=cI x->(decide (x_1.2<(x.length:Int))=true->0<=x_1.2/\x_1.2<(x.length:Int)/\((!(x.getD x_1.2.toNat (0,0,0,0,false)).2.2.2.2)=true->ak .u64 (IntKind.u64.wrap (x.getD x_1.2.toNat (0,0,0,0,false)).1+1)/\ak .i64 (x_1.2+1)/\(0<=x_1.2+1/\x_1.2+1<=(x.length:Int)/\(∀ (s:aw),s∈x->0<=s.1/\s.1<=256)/\ew (gp x_1.1 (IntKind.u64.wrap (x.getD x_1.2.toNat (0,0,0,0,false)).1+1) x_1.2) (x_1.2+1) (List.drop (x_1.2+1).toNat x)=cI x)/\((x.length:Int) - (x_1.2+1)).toNat<((x.length:Int) - x_1.2).toNat)/\((!(x.getD x_1.2.toNat (0,0,0,0,false)).2.2.2.2)=false->ak .i64 (x_1.2+1)/\(0<=x_1.2+1/\x_1.2+1<=(x.length:Int)/\(∀ (s:aw),s∈x->0<=s.1/\s.1<=256)/\ew x_1.1 (x_1.2+1) (List.drop (x_1.2+1).toNat x)=cI x)/\((x.length:Int) - (x_1.2+1)).toNat<((x.length:Int) - x_1.2).toNat))/\(decide (x_1.2<(x.length:Int))=false->x_1.1=cI x/\True)
theorem uz:ot:=by
 unfold ot;intro l ⟨hb,_⟩ hp;refine ⟨⟨by omega,by omega,hp,rfl⟩,fun ⟨m,i⟩ ⟨h0,h1,_,h2⟩=>⟨fun hlt=>?_,fun hge=>?_⟩⟩
 ·have hlt:i<(l.length:Int):=by simpa using hlt
  simp only at *;have hs:=hp _ (aI ((0,0,0,0,false):aw) h0 hlt);rw [bI ((0,0,0,0,false):aw) h0 hlt] at h2;simp only [ew] at h2;generalize l.getD i.toNat (0,0,0,0,false)=s at *;unfold aK at hb;refine ⟨h0,hlt,fun hc=>?_,fun hc=>?_⟩
  ·have hc:¬ s.2.2.2.2=true:=by simpa using hc
   rw [if_neg hc] at h2;rw [eY (by omega) (by omega)];simp only [ak];exact ⟨by omega,by omega,⟨by omega,by omega,hp,h2⟩,by omega⟩
  ·have hc:s.2.2.2.2=true:=by simpa using hc
   rw [if_pos hc] at h2;simp only [ak];exact ⟨by omega,⟨by omega,by omega,hp,h2⟩,by omega⟩
 ·rw [cE (by simpa using hge)] at h2;exact ⟨h2,trivial⟩
theorem xR:xH.ok Tryz.prog 223:=aD (ann:=yk) ap Tryz.func223 (by kernel_rfl) uz
def gE (m:List (Int×Int)) (a:List Int) (l:List aw):Bool:=l.all fun s=>(aQ a s).all fun v=>(bA m v).isSome
def am (a:List Int):List aw×List (Int×Int)×Int :=
 if (ac a).2≠0 then ([],[],(ac a).2) else if gE (cI (ac a).1) a (ac a).1=true then ((ac a).1,cI (ac a).1,0) else ([],[],5)
theorem gP {a:List Int} (h:(ac a).2=0):a.length<=256/\∀ s∈(ac a).1,du a s/\af s.2=0:=by
 unfold ac at h |-;split at h
 ·simp at h
 rename_i cl;rw [if_neg cl];refine ⟨by omega,?_⟩;cases e:spotsS 0 a with
 | none=>rw [e] at h; simp at h
 | some l =>
  intro s hs;obtain ⟨h1,h2,h3⟩:=rC 0 a l e s hs;have:=a7 h3;unfold aa at h2;exact ⟨⟨h1,this.1,this.2.1,by omega⟩,h3⟩
def ym:Nat->Option LoopGen
 | 6=>some { rd:=[.own 24 202 cM,.dat 0 (.arr bi),.map 23 .u64 ty_I],A:=fun ((l,a,m):List aw×List Int×List (Int×Int))=>{ cs:=[.dat 26 ty_I],inv:=fun (i:Int)=>0<=i/\i<=l.length/\a.length<=256/\(∀ s∈l,du a s)/\gE m a (l.drop i.toNat)=gE m a l,mu:=fun (i:Int)=>(l.length - i).toNat } }
 | 9=>some { rd:=[.dat 32 (.arr bi),.map 23 .u64 ty_I],A:=fun ((rs,m):List Int×List (Int×Int))=>{ cs:=[.dat 34 ty_I],inv:=fun (j:Int)=>0<=j/\j<=rs.length/\((rs.drop j.toNat).all fun v=>(bA m v).isSome)=(rs.all fun v=>(bA m v).isSome),mu:=fun (j:Int)=>(rs.length - j).toNat } }
 | _=>none
def xJ:Spec:={ Ts:=[.arr bi],Rs:=[.dat (.arr cM),.dat (.map .u64 ty_I),.dat ty_I],al:=true,pre:=fun _=>True,F:=am }
def ov:Prop :=
  ∀ (x:List Int),(fun (v1:type_of% (cI (ac x).1))=>(x.length * 8<=aK/\∀ (x_1:Int),x_1∈x->ak .u64 x_1)->True->True/\(decide ((ac x).2≠0)=true->([]:List (Int×Int×Int×Int×Bool))=(am x).1/\([]:List (Int×Int))=(am x).2.1/\(ac x).2=(am x).2.2/\True)/\(decide ((ac x).2≠0)=false->(∀ (s:aw),s∈(ac x).1->0<=s.1/\s.1<=256)/\((0:Int)<=0/\0<=(↑(ac x).1.length:Int)/\x.length<=256/\(∀ (s:aw),s∈(ac x).1->du x s)/\gE v1 x (List.drop (Int.toNat 0) (ac x).1)=gE v1 x (ac x).1)/\∀ (x_1:Int),(fun (v0:type_of% (aQ x ((ac x).1.getD x_1.toNat (0,0,0,0,false))))=>0<=x_1/\x_1<=(↑(ac x).1.length:Int)/\x.length<=256/\(∀ (s:aw),s∈(ac x).1->du x s)/\gE v1 x (List.drop x_1.toNat (ac x).1)=gE v1 x (ac x).1->(decide (x_1<(↑(ac x).1.length:Int))=true->0<=x_1/\x_1<(↑(ac x).1.length:Int)/\x_1.toNat<(ac x).1.length/\(x.length<=256/\du x ((ac x).1.getD x_1.toNat (0,0,0,0,false)))/\((0:Int)<=0/\0<=(v0.length:Int)/\((List.drop (Int.toNat 0) v0).all fun (v:Int)=>(bA v1 v).isSome)=v0.all fun (v:Int)=>(bA v1 v).isSome)/\∀ (x_2:Int),(0<=x_2/\x_2<=(v0.length:Int)/\((List.drop x_2.toNat v0).all fun (v:Int)=>(bA v1 v).isSome)=v0.all fun (v:Int)=>(bA v1 v).isSome)->(decide (x_2<(v0.length:Int))=true->0<=x_2/\x_2<(v0.length:Int)/\((!(bA v1 (v0.getD x_2.toNat 0)).isSome)=true->([]:List (Int×Int×Int×Int×Bool))=(am x).1/\([]:List (Int×Int))=(am x).2.1/\5=(am x).2.2/\True)/\((!(bA v1 (v0.getD x_2.toNat 0)).isSome)=false->ak .i64 (x_2+1)/\(0<=x_2+1/\x_2+1<=(v0.length:Int)/\((List.drop (x_2+1).toNat v0).all fun (v:Int)=>(bA v1 v).isSome)=v0.all fun (v:Int)=>(bA v1 v).isSome)/\((v0.length:Int) - (x_2+1)).toNat<((v0.length:Int) - x_2).toNat))/\(decide (x_2<(v0.length:Int))=false->ak .i64 (x_1+1)/\(0<=x_1+1/\x_1+1<=(↑(ac x).1.length:Int)/\x.length<=256/\(∀ (s:aw),s∈(ac x).1->du x s)/\gE v1 x (List.drop (x_1+1).toNat (ac x).1)=gE v1 x (ac x).1)/\((↑(ac x).1.length:Int) - (x_1+1)).toNat<((↑(ac x).1.length:Int) - x_1).toNat))/\(decide (x_1<(↑(ac x).1.length:Int))=false->(ac x).1=(am x).1/\cI (ac x).1=(am x).2.1/\0=(am x).2.2/\True)) (aQ x ((ac x).1.getD x_1.toNat (0,0,0,0,false))))) (cI (ac x).1)
theorem uB:ov:=by
 unfold ov;intro a ⟨hb,hw⟩ _;have hlen:=fw a;have hin:=gP (a:=a);have hF:am a=if (ac a).2≠0 then ([],[],(ac a).2) else if gE (cI (ac a).1) a (ac a).1=true then ((ac a).1,cI (ac a).1,0) else ([],[],5):=rfl
 generalize cI (ac a).1=m at *;generalize (ac a).1=l at *;refine ⟨trivial,fun hc=>?_,fun hc=>?_⟩
 ·have hc:(ac a).2≠0:=by simpa using hc
  rw [hF,if_pos hc];exact ⟨rfl,rfl,rfl,trivial⟩
 have hc:(ac a).2=0:=by simpa using hc
 rw [if_neg (by omega)] at hF;obtain ⟨hal,hsp⟩:=hin hc;refine ⟨fun s hs=>?_,⟨by omega,by omega,hal,fun s hs=>(hsp s hs).1,rfl⟩,fun i ⟨h0,h1,_,_,h2⟩=>⟨fun hlt=>?_,fun hge=>?_⟩⟩
 ·have:=(hsp s hs).1;unfold du at this;omega
 ·have hlt:i<(l.length:Int):=by simpa using hlt
  have hs:=hsp _ (aI ((0,0,0,0,false):aw) h0 hlt);rw [bI ((0,0,0,0,false):aw) h0 hlt] at h2;simp only [gE,Rt] at h2;generalize l.getD i.toNat (0,0,0,0,false)=s at *;have hrl:(aQ a s).length<=256:=by simp only [aQ,QH,QD]; omega
  generalize aQ a s=rs at *;refine ⟨h0,hlt,by omega,⟨hal,hs.1⟩,⟨by omega,by omega,rfl⟩,fun j ⟨g0,g1,g2⟩=>⟨fun hlt=>?_,fun hge=>?_⟩⟩
  ·have hlt:j<(rs.length:Int):=by simpa using hlt
   rw [bI (0:Int) g0 hlt] at g2;simp only [Rt] at g2;generalize rs.getD j.toNat 0=v at *;refine ⟨g0,hlt,fun hv=>?_,fun hv=>?_⟩
   ·have hv:(bA m v).isSome=false:=by simpa using hv
    rw [hv,SA] at g2;rw [<- g2,SA] at h2;rw [hF,if_neg (by unfold gE; rw [<- h2]; simp)];exact ⟨rfl,rfl,rfl,trivial⟩
   ·have hv:(bA m v).isSome=true:=by simpa using hv
    rw [hv,RN] at g2;simp only [ak];exact ⟨by omega,⟨by omega,by omega,g2⟩,by omega⟩
  ·rw [cE (by simpa using hge),Tb] at g2;rw [<- g2,RN] at h2;simp only [ak];exact ⟨by omega,⟨by omega,by omega,hal,fun s hs=>(hsp s hs).1,h2⟩,by omega⟩
 ·rw [cE (by simpa using hge)] at h2;have h2:gE m a l=true:=by rw [<- h2]; rfl
  rw [hF,if_pos h2];exact ⟨rfl,rfl,rfl,trivial⟩
theorem oF:xJ.ok Tryz.prog 162:=aD (ann:=ym) (ae jz (ae xR (ae tu ap))) Tryz.func162 (by kernel_rfl) uB
def Av:Spec:={ Ts:=[.arr bi],Rs:=[.dat ty_I],pre:=fun _=>True,F:=fun (a:List Int)=>(am a).2.2 }
def qg:Prop :=
  ∀ (x:List Int),(x.length * 8<=aK/\∀ (x_1:Int),x_1∈x->ak .u64 x_1)->True->True/\(am x).2.2=(am x).2.2/\True
theorem xn:qg:=by
 unfold qg;intro a _ _;simp
theorem jA:Av.ok Tryz.prog 148:=aD (ann:=cF) (ae oF ap) Tryz.func148 (by kernel_rfl) xn
def iX (a:List Int) (s:aw):List Int:=(a.take (s.1+1+s.2.1+s.2.2.1).toNat).drop (s.1+1+s.2.1).toNat
def im (a:List Int) (s:aw) (m:List (Int×Int)):Obj:=(s.2.2.2.1,(aQ a s).map (fun v=>(bA m v).getD 0),iX a s,s.2.2.2.2)
def yl:Nat->Option LoopGen
 | 3=>some { rd:=[.dat 20 (.arr bi),.dat 2 (.map .u64 ty_I),.box 4 cM],A:=fun ((rs,m,s):List Int×List (Int×Int)×aw)=>{ cs:=[.boxS 7 [.dat ty_I,.own 3 ty_I,.dat (.arr bi),.dat .bool],.dat 22 ty_I],inv:=fun ((o,j):Obj×Int)=>0<=j/\j<=rs.length/\rs.length<=256/\o=(s.2.2.2.1,(rs.take j.toNat).map (fun v=>(bA m v).getD 0),[],s.2.2.2.2),mu:=fun ((_,j):Obj×Int)=>(rs.length - j).toNat } }
 | _=>none
def xI:Spec:={ Ts:=[.arr bi,cM,.map .u64 ty_I],Rs:=[.dat FO],al:=true,pre:=fun ((a,s,_):List Int×aw×List (Int×Int))=>a.length<=256/\du a s,F:=fun ((a,s,m):List Int×aw×List (Int×Int))=>im a s m }
def ou:Prop :=
  ∀ (x:List Int×(Int×Int×Int×Int×Bool)×List (Int×Int)),(fun (v0:type_of% (aQ x.1 x.2.1))=>((x.1.length * 8<=aK/\∀ (x_1:Int),x_1∈x.1->ak .u64 x_1)/\(ak .i64 x.2.1.1/\ak .i64 x.2.1.2.1/\ak .i64 x.2.1.2.2.1/\ak .i64 x.2.1.2.2.2.1/\True)/\∀ (x_1:Int×Int),x_1∈x.2.2->ak .u64 x_1.1/\ak .i64 x_1.2)->x.1.length<=256/\du x.1 x.2.1->(x.1.length<=256/\du x.1 x.2.1)/\((0:Int)<=0/\0<=(v0.length:Int)/\v0.length<=256/\(x.2.1.2.2.2.1,([]:List Int),([]:List Int),x.2.1.2.2.2.2)=(x.2.1.2.2.2.1,List.map (fun (v:Int)=>(bA x.2.2 v).getD 0) (List.take (Int.toNat 0) v0),([]:List Int),x.2.1.2.2.2.2))/\∀ (x_1:(Int×List Int×List Int×Bool)×Int),0<=x_1.2/\x_1.2<=(v0.length:Int)/\v0.length<=256/\x_1.1=(x.2.1.2.2.2.1,List.map (fun (v:Int)=>(bA x.2.2 v).getD 0) (List.take x_1.2.toNat v0),([]:List Int),x.2.1.2.2.2.2)->(decide (x_1.2<(v0.length:Int))=true->0<=x_1.2/\x_1.2<(v0.length:Int)/\(x_1.1.2.1.length+[(bA x.2.2 (v0.getD x_1.2.toNat 0)).getD 0].length) * 8<=aK/\ak .i64 (x_1.2+1)/\(0<=x_1.2+1/\x_1.2+1<=(v0.length:Int)/\v0.length<=256/\(x_1.1.1,x_1.1.2.1++[(bA x.2.2 (v0.getD x_1.2.toNat 0)).getD 0],x_1.1.2.2)=(x.2.1.2.2.2.1,List.map (fun (v:Int)=>(bA x.2.2 v).getD 0) (List.take (x_1.2+1).toNat v0),([]:List Int),x.2.1.2.2.2.2))/\((v0.length:Int) - (x_1.2+1)).toNat<((v0.length:Int) - x_1.2).toNat)/\(decide (x_1.2<(v0.length:Int))=false->ak .i64 (x.2.1.1+1)/\ak .i64 (x.2.1.1+1+x.2.1.2.1)/\ak .i64 (x.2.1.1+1+x.2.1.2.1+x.2.1.2.2.1)/\0<=x.2.1.1+1+x.2.1.2.1/\x.2.1.1+1+x.2.1.2.1<=x.2.1.1+1+x.2.1.2.1+x.2.1.2.2.1/\x.2.1.1+1+x.2.1.2.1+x.2.1.2.2.1<=(x.1.length:Int)/\True/\(x_1.1.1,x_1.1.2.1,List.drop (x.2.1.1+1+x.2.1.2.1).toNat (List.take (x.2.1.1+1+x.2.1.2.1+x.2.1.2.2.1).toNat x.1),x_1.1.2.2.2)=im x.1 x.2.1 x.2.2/\True)) (aQ x.1 x.2.1)
theorem uA:ou:=by
 unfold ou;intro ⟨a,s,m⟩ _ ⟨hal,hs⟩;have hs':=hs;unfold du at hs';simp only at *;have hrl:(aQ a s).length<=256:=by simp only [aQ,QH,QD]; omega
 have hF:im a s m=(s.2.2.2.1,(aQ a s).map (fun v=>(bA m v).getD 0),iX a s,s.2.2.2.2):=rfl;have hB:iX a s=(a.take (s.1+1+s.2.1+s.2.2.1).toNat).drop (s.1+1+s.2.1).toNat:=rfl;rw [hF,hB];generalize aQ a s=rs at *;refine ⟨⟨hal,hs⟩,⟨by omega,by omega,hrl,by simp⟩,fun ⟨o,j⟩ ⟨g0,g1,_,g2⟩=>⟨fun hlt=>?_,fun hge=>?_⟩⟩
 ·have hlt:j<(rs.length:Int):=by simpa using hlt
  simp only at g0 g1 g2;have e:=a8 (0:Int) g0 hlt;have hl:o.2.1.length=j.toNat:=by rw [g2]; simp; omega
  unfold aK;simp only [ak,HN,QQ];refine ⟨g0,hlt,by omega,by omega,⟨by omega,by omega,hrl,?_⟩,by omega⟩;rw [e,Rg,g2];rfl
 ·have hge:¬ j<(rs.length:Int):=by simpa using hge
  simp only at g0 g1 g2;rw [bT hge] at g2;simp only [ak];refine ⟨by omega,by omega,by omega,by omega,by omega,by omega,trivial,?_,trivial⟩;rw [g2]
theorem xS:xI.ok Tryz.prog 165:=aD (ann:=yl) (ae tu (ae bK ap)) Tryz.func165 (by kernel_rfl) uA
theorem bp {a:List Int} (h:(am a).2.2=0):a.length<=256/\(am a).1.length<=256/\(am a).1=(ac a).1/\(ac a).2=0/\(am a).2.1=cI (ac a).1/\gE (cI (ac a).1) a (ac a).1=true/\∀ s∈(am a).1,du a s/\af s.2=0:=by
 unfold am at h |-;by_cases h1:(ac a).2≠0
 ·rw [if_pos h1] at h;exact absurd h h1
 ·rw [if_neg h1] at h |-;have h1:(ac a).2=0:=by omega
  by_cases h2:gE (cI (ac a).1) a (ac a).1=true
  ·rw [if_pos h2];exact ⟨(gP h1).1,fw a,rfl,h1,rfl,h2,(gP h1).2⟩
  ·rw [if_neg h2] at h;simp at h
def Gb:Spec:={ Ts:=[.arr cM,.fn cM .bool],Rs:=[.dat ty_I],pre:=fun ((l,g):List aw×(aw->Prop)×(aw->Bool))=>∀ s∈l,g.1 s,F:=fun ((l,g):List aw×(aw->Prop)×(aw->Bool))=>ag g.2 0 l }
def HD:Nat->Option LoopGen
 | 2=>some { rd:=[.dat 0 (.arr cM),.dat 1 (.fn cM .bool)],A:=fun ((l,g):List aw×(aw->Prop)×(aw->Bool))=>{ cs:=[.dat 8 ty_I],inv:=fun (i:Int)=>0<=i/\i<=l.length/\ag g.2 i (l.drop i.toNat)=ag g.2 0 l,mu:=fun (i:Int)=>(l.length - i).toNat } }
 | _=>none
def vE:Prop :=
  ∀ (x:List (Int×Int×Int×Int×Bool)×(Int×Int×Int×Int×Bool->Prop)×(Int×Int×Int×Int×Bool->Bool)),(x.1.length * (8+(8+(8+(8+8))))<=aK/\∀ (x_1:Int×Int×Int×Int×Bool),x_1∈x.1->ak .i64 x_1.1/\ak .i64 x_1.2.1/\ak .i64 x_1.2.2.1/\ak .i64 x_1.2.2.2.1/\True)/\True->(∀ (s:aw),s∈x.1->x.2.1 s)->((0:Int)<=0/\0<=(x.1.length:Int)/\ag x.2.2 0 (List.drop (Int.toNat 0) x.1)=ag x.2.2 0 x.1)/\∀ (x_1:Int),0<=x_1/\x_1<=(x.1.length:Int)/\ag x.2.2 x_1 (List.drop x_1.toNat x.1)=ag x.2.2 0 x.1->(decide (x_1<(x.1.length:Int))=true->0<=x_1/\x_1<(x.1.length:Int)/\x.2.1 (x.1.getD x_1.toNat (0,0,0,0,false))/\(x.2.2 (x.1.getD x_1.toNat (0,0,0,0,false))=true->x_1=ag x.2.2 0 x.1/\True)/\(x.2.2 (x.1.getD x_1.toNat (0,0,0,0,false))=false->ak .i64 (x_1+1)/\(0<=x_1+1/\x_1+1<=(x.1.length:Int)/\ag x.2.2 (x_1+1) (List.drop (x_1+1).toNat x.1)=ag x.2.2 0 x.1)/\((x.1.length:Int) - (x_1+1)).toNat<((x.1.length:Int) - x_1).toNat))/\(decide (x_1<(x.1.length:Int))=false->(-1)=ag x.2.2 0 x.1/\True)
theorem Cm:vE:=by
 unfold vE;intro ⟨l,g⟩ ⟨⟨hl,_⟩,_⟩ hp;unfold aK at *;refine ⟨⟨by omega,by omega,by simp⟩,fun i ⟨h0,h1,h2⟩=>⟨fun hlt=>?_,fun hge=>?_⟩⟩
 ·have hlt:i<(l.length:Int):=by simpa using hlt
  have e:=bI ((0,0,0,0,false):aw) h0 hlt;have hm:=hp _ (aI ((0,0,0,0,false):aw) h0 hlt);simp only at *;rw [e] at h2;simp only [ag] at h2;refine ⟨h0,hlt,hm,fun hc=>?_,fun hc=>?_⟩
  ·rw [if_pos hc] at h2;exact ⟨h2,trivial⟩
  ·rw [if_neg (by rw [hc]; simp)] at h2;exact ⟨by simp only [ak]; omega,⟨by omega,by omega,h2⟩,by omega⟩
 ·rw [cE (by simpa using hge)] at h2;exact ⟨h2,trivial⟩
theorem pd:Gb.ok Tryz.prog 163:=aD (ann:=HD) ap Tryz.func163 (by kernel_rfl) Cm
def JA:Spec:={ Ts:=[cM,.ref ty_I],Rs:=[.dat .bool],pre:=fun _=>True,F:=fun ((s,at_):aw×Int)=>decide (s.1=at_) }
def yZ:Prop :=
  ∀ (x:(Int×Int×Int×Int×Bool)×Int),(ak .i64 x.1.1/\ak .i64 x.1.2.1/\ak .i64 x.1.2.2.1/\ak .i64 x.1.2.2.2.1/\True)/\ak .i64 x.2->True->decide (x.1.1=x.2)=decide (x.1.1=x.2)/\True
theorem FK:yZ:=by
 unfold yZ;intro ⟨s,at_⟩ _ _;simp
theorem Kb:JA.ok Tryz.prog 164:=aD (ann:=cF) ap Tryz.func164 (by kernel_rfl) FK
def iO:Obj:=(0,[],[],false)
def iy (a:List Int) (at_:Int):Obj×Int :=
 if (am a).2.2≠0 then (iO,(am a).2.2) else if ag (fun s=>decide (s.1=at_)) 0 (am a).1<0 then (iO,5)
 else (im a ((am a).1.getD (ag (fun s=>decide (s.1=at_)) 0 (am a).1).toNat (0,0,0,0,false)) (am a).2.1,0)
def Jf:Spec:={ Ts:=[.arr bi,ty_I],Rs:=[.dat FO,.dat ty_I],al:=true,pre:=fun _=>True,F:=fun ((a,at_):List Int×Int)=>iy a at_ }
def yG:Prop :=
  ∀ (x:List Int×Int),(x.1.length * 8<=aK/\∀ (x_1:Int),x_1∈x.1->ak .u64 x_1)/\ak .i64 x.2->True->True/\(decide ((am x.1).2.2≠0)=true->(0,([]:List Int),([]:List Int),false)=(iy x.1 x.2).1/\(am x.1).2.2=(iy x.1 x.2).2/\True)/\(decide ((am x.1).2.2≠0)=false->(∀ (s:aw),s∈(am x.1).1->(fun (_:Int×Int×Int×Int×Bool)=>True,fun (x_1:Int×Int×Int×Int×Bool)=>decide (x_1.1=x.2)).1 s)/\(decide (ag (fun (x_1:Int×Int×Int×Int×Bool)=>decide (x_1.1=x.2)) 0 (am x.1).1<0)=true->(0,([]:List Int),([]:List Int),false)=(iy x.1 x.2).1/\5=(iy x.1 x.2).2/\True)/\(decide (ag (fun (x_1:Int×Int×Int×Int×Bool)=>decide (x_1.1=x.2)) 0 (am x.1).1<0)=false->0<=ag (fun (x_1:Int×Int×Int×Int×Bool)=>decide (x_1.1=x.2)) 0 (am x.1).1/\ag (fun (x_1:Int×Int×Int×Int×Bool)=>decide (x_1.1=x.2)) 0 (am x.1).1<(↑(am x.1).1.length:Int)/\(x.1.length<=256/\du x.1 ((am x.1).1.getD (ag (fun (x_1:Int×Int×Int×Int×Bool)=>decide (x_1.1=x.2)) 0 (am x.1).1).toNat (0,0,0,0,false)))/\im x.1 ((am x.1).1.getD (ag (fun (x_1:Int×Int×Int×Int×Bool)=>decide (x_1.1=x.2)) 0 (am x.1).1).toNat (0,0,0,0,false)) (am x.1).2.1=(iy x.1 x.2).1/\0=(iy x.1 x.2).2/\True))
theorem Fq:yG:=by
 unfold yG;intro ⟨a,at_⟩ _ _;have hin:=bp (a:=a)
 have hF:iy a at_=if (am a).2.2≠0 then (iO,(am a).2.2) else if ag (fun s=>decide (s.1=at_)) 0 (am a).1<0 then (iO,5)
   else (im a ((am a).1.getD (ag (fun s=>decide (s.1=at_)) 0 (am a).1).toNat (0,0,0,0,false)) (am a).2.1,0):=rfl
 simp only at *;generalize (am a).1=l at *;have hlt:=em (fun s:aw=>decide (s.1=at_)) (0,0,0,0,false) l 0 (by omega);rw [hF];refine ⟨trivial,fun hc=>?_,fun hc=>⟨fun _ _=>trivial,fun h2=>?_,fun h2=>?_⟩⟩
 ·have hc:(am a).2.2≠0:=by simpa using hc
  rw [if_pos hc];exact ⟨rfl,rfl,trivial⟩
 ·have hc:(am a).2.2=0:=by simpa using hc
  rw [if_neg (by omega),if_pos (tM h2)];exact ⟨rfl,rfl,trivial⟩
 ·have hc:(am a).2.2=0:=by simpa using hc
  have h2:=uZ h2;rw [if_neg (by omega),if_neg h2];obtain ⟨hal,hll,_,_,_,_,hsp⟩:=hin hc;have hlt':ag (fun s:aw=>decide (s.1=at_)) 0 l<(l.length:Int):=by omega
  have h2':0<=ag (fun s:aw=>decide (s.1=at_)) 0 l:=Int.not_lt.1 h2;exact ⟨h2',hlt',⟨hal,(hsp _ (aI _ h2' hlt')).1⟩,rfl,rfl,trivial⟩
theorem nU:Jf.ok Tryz.prog 93:=aD (ann:=cF) (ae oF (ae xS (ae pd (ae Kb ap)))) Tryz.func93 (by kernel_rfl) Fq
end
section
def cY:LoopGen:={ rd:=[],A:=fun _=>{ cs:=[],inv:=fun _=>True,mu:=fun _=>0 } }
def cK (l:List Int) (n:Int):Int:=ag (fun x=>decide (x=n)) 0 l
def fR (l:List Int) (n:Int):Bool:=l.any fun x=>decide (x=n)
def NM:Spec:={ Ts:=[.arr ty_I,ty_I],Rs:=[.dat ty_I],pre:=fun _=>True,F:=fun ((l,v):List Int×Int)=>cK l v }
def OK:Nat->Option LoopGen
 | 2=>some { rd:=[.dat 0 (.arr ty_I),.dat 1 ty_I],A:=fun ((l,v):List Int×Int)=>{ cs:=[.dat 8 ty_I],inv:=fun (i:Int)=>0<=i/\i<=l.length/\ag (fun x=>decide (x=v)) i (l.drop i.toNat)=cK l v,mu:=fun (i:Int)=>(l.length - i).toNat } }
 | _=>none
def H1:Prop :=
  ∀ (x:List Int×Int),(x.1.length * 8<=aK/\∀ (x_1:Int),x_1∈x.1->ak .i64 x_1)/\ak .i64 x.2->True->((0:Int)<=0/\0<=(x.1.length:Int)/\ag (fun (x_1:Int)=>decide (x_1=x.2)) 0 (List.drop (Int.toNat 0) x.1)=cK x.1 x.2)/\∀ (x_1:Int),0<=x_1/\x_1<=(x.1.length:Int)/\ag (fun (x_2:Int)=>decide (x_2=x.2)) x_1 (List.drop x_1.toNat x.1)=cK x.1 x.2->(decide (x_1<(x.1.length:Int))=true->0<=x_1/\x_1<(x.1.length:Int)/\(decide (x.2=x.1.getD x_1.toNat 0)=true->x_1=cK x.1 x.2/\True)/\(decide (x.2=x.1.getD x_1.toNat 0)=false->ak .i64 (x_1+1)/\(0<=x_1+1/\x_1+1<=(x.1.length:Int)/\ag (fun (x_2:Int)=>decide (x_2=x.2)) (x_1+1) (List.drop (x_1+1).toNat x.1)=cK x.1 x.2)/\((x.1.length:Int) - (x_1+1)).toNat<((x.1.length:Int) - x_1).toNat))/\(decide (x_1<(x.1.length:Int))=false->(-1)=cK x.1 x.2/\True)
theorem K7:H1:=by
 unfold H1;intro ⟨l,n⟩ ⟨⟨hb,_⟩,_⟩ _;unfold aK at hb;refine ⟨⟨by omega,by omega,rfl⟩,fun i ⟨h0,h1,h2⟩=>⟨fun hlt=>?_,fun hge=>?_⟩⟩
 ·have hlt:i<(l.length:Int):=by simpa using hlt
  simp only at *;rw [bI (0:Int) h0 hlt] at h2;simp only [ag] at h2;simp only [ak];refine ⟨h0,hlt,fun hc=>?_,fun hc=>?_⟩
  ·rw [if_pos (Rm (tM hc).symm)] at h2;exact ⟨h2,trivial⟩
  ·rw [if_neg (fun e=>uZ hc (tM e).symm)] at h2;exact ⟨by omega,⟨by omega,by omega,h2⟩,by omega⟩
 ·rw [cE (by simpa using hge)] at h2;exact ⟨h2,trivial⟩
theorem Ig:NM.ok Tryz.prog 108:=aD (ann:=OK) ap Tryz.func108 (by kernel_rfl) K7
def NN:Spec:={ Ts:=[.arr ty_I,ty_I],Rs:=[.dat .bool],pre:=fun _=>True,F:=fun ((l,v):List Int×Int)=>fR l v }
def H2:Prop :=
  ∀ (x:List Int×Int),(x.1.length * 8<=aK/\∀ (x_1:Int),x_1∈x.1->ak .i64 x_1)/\ak .i64 x.2->True->True/\decide (0<=cK x.1 x.2)=fR x.1 x.2/\True
theorem K8:H2:=by
 unfold H2;intro ⟨l,v⟩ _ _;exact ⟨trivial,ep _ l 0 (by omega),trivial⟩
theorem A7:NN.ok Tryz.prog 39:=aD (ann:=cF) (ae Ig ap) Tryz.func39 (by kernel_rfl) K8
def LF:Spec:={ Ts:=[.arr ty_I,.fn ty_I .bool],Rs:=[.dat ty_I],pre:=fun ((l,g):List Int×(Int->Prop)×(Int->Bool))=>∀ s∈l,g.1 s,F:=fun ((l,g):List Int×(Int->Prop)×(Int->Bool))=>ag g.2 0 l }
def Nn:Nat->Option LoopGen
 | 2=>some { rd:=[.dat 0 (.arr ty_I),.dat 1 (.fn ty_I .bool)],A:=fun ((l,g):List Int×(Int->Prop)×(Int->Bool))=>{ cs:=[.dat 8 ty_I],inv:=fun (i:Int)=>0<=i/\i<=l.length/\ag g.2 i (l.drop i.toNat)=ag g.2 0 l,mu:=fun (i:Int)=>(l.length - i).toNat } }
 | _=>none
def DN:Prop :=
  ∀ (x:List Int×(Int->Prop)×(Int->Bool)),(x.1.length * 8<=aK/\∀ (x_1:Int),x_1∈x.1->ak .i64 x_1)/\True->(∀ (s:Int),s∈x.1->x.2.1 s)->((0:Int)<=0/\0<=(x.1.length:Int)/\ag x.2.2 0 (List.drop (Int.toNat 0) x.1)=ag x.2.2 0 x.1)/\∀ (x_1:Int),0<=x_1/\x_1<=(x.1.length:Int)/\ag x.2.2 x_1 (List.drop x_1.toNat x.1)=ag x.2.2 0 x.1->(decide (x_1<(x.1.length:Int))=true->0<=x_1/\x_1<(x.1.length:Int)/\x.2.1 (x.1.getD x_1.toNat 0)/\(x.2.2 (x.1.getD x_1.toNat 0)=true->x_1=ag x.2.2 0 x.1/\True)/\(x.2.2 (x.1.getD x_1.toNat 0)=false->ak .i64 (x_1+1)/\(0<=x_1+1/\x_1+1<=(x.1.length:Int)/\ag x.2.2 (x_1+1) (List.drop (x_1+1).toNat x.1)=ag x.2.2 0 x.1)/\((x.1.length:Int) - (x_1+1)).toNat<((x.1.length:Int) - x_1).toNat))/\(decide (x_1<(x.1.length:Int))=false->(-1)=ag x.2.2 0 x.1/\True)
theorem I1:DN:=by
 unfold DN;intro ⟨l,g⟩ ⟨⟨hl,_⟩,_⟩ hp;unfold aK at *;refine ⟨⟨by omega,by omega,by simp⟩,fun i ⟨h0,h1,h2⟩=>⟨fun hlt=>?_,fun hge=>?_⟩⟩
 ·have hlt:i<(l.length:Int):=by simpa using hlt
  have e:=bI (0:Int) h0 hlt;have hm:=hp _ (aI (0:Int) h0 hlt);simp only at *;rw [e] at h2;simp only [ag] at h2;refine ⟨h0,hlt,hm,fun hc=>?_,fun hc=>?_⟩
  ·rw [if_pos hc] at h2;exact ⟨h2,trivial⟩
  ·rw [if_neg (by rw [hc]; simp)] at h2;exact ⟨by simp only [ak]; omega,⟨by omega,by omega,h2⟩,by omega⟩
 ·rw [cE (by simpa using hge)] at h2;exact ⟨h2,trivial⟩
theorem D4:LF.ok Tryz.prog 107:=aD (ann:=Nn) ap Tryz.func107 (by kernel_rfl) I1
def NS:Spec:={ Ts:=[.arr ty_I,.fn ty_I .bool],Rs:=[.dat .bool],pre:=fun ((l,g):List Int×(Int->Prop)×(Int->Bool))=>∀ s∈l,g.1 s,F:=fun ((l,g):List Int×(Int->Prop)×(Int->Bool))=>l.any g.2 }
def H7:Prop :=
  ∀ (x:List Int×(Int->Prop)×(Int->Bool)),(x.1.length * 8<=aK/\∀ (x_1:Int),x_1∈x.1->ak .i64 x_1)/\True->(∀ (s:Int),s∈x.1->x.2.1 s)->(∀ (s:Int),s∈x.1->x.2.1 s)/\decide (0<=ag x.2.2 0 x.1)=x.1.any x.2.2/\True
theorem Ld:H7:=by
 unfold H7;intro ⟨l,g⟩ _ hp;exact ⟨hp,ep _ l 0 (by omega),trivial⟩
theorem A9:NS.ok Tryz.prog 37:=aD (ann:=cF) (ae D4 ap) Tryz.func37 (by kernel_rfl) Ld
def bk:List Int->Bool
 | x::y::l=>decide (x<y)&&bk (y::l)
 | _=>true
theorem AR:∀ {l:List Int},l.length<=1->bk l=true
 | [],_=>rfl
 | [_],_=>rfl
 | _::_::_,h=>by simp at h
def Nj:Nat->Option LoopGen
 | 2=>some { rd:=[.dat 0 (.arr ty_I)],A:=fun (l:List Int)=>{ cs:=[.dat 3 ty_I],inv:=fun (i:Int)=>1<=i/\i<=l.length+1/\bk (l.drop (i - 1).toNat)=bk l,mu:=fun (i:Int)=>(l.length - i).toNat } }
 | _=>none
def Lw:Spec:={ Ts:=[.arr ty_I],Rs:=[.dat .bool],pre:=fun _=>True,F:=bk }
def DG:Prop :=
  ∀ (x:List Int),(x.length * 8<=aK/\∀ (x_1:Int),x_1∈x->ak .i64 x_1)->True->((1:Int)<=1/\1<=(x.length:Int)+1/\bk (List.drop ((1:Int) - 1).toNat x)=bk x)/\∀ (x_1:Int),1<=x_1/\x_1<=(x.length:Int)+1/\bk (List.drop (x_1 - 1).toNat x)=bk x->(decide (x_1<(x.length:Int))=true->ak .i64 (x_1 - 1)/\0<=x_1 - 1/\x_1 - 1<(x.length:Int)/\0<=x_1/\x_1<(x.length:Int)/\(decide (x.getD x_1.toNat 0<=x.getD (x_1 - 1).toNat 0)=true->false=bk x/\True)/\(decide (x.getD x_1.toNat 0<=x.getD (x_1 - 1).toNat 0)=false->ak .i64 (x_1+1)/\(1<=x_1+1/\x_1+1<=(x.length:Int)+1/\bk (List.drop (x_1+1 - 1).toNat x)=bk x)/\((x.length:Int) - (x_1+1)).toNat<((x.length:Int) - x_1).toNat))/\(decide (x_1<(x.length:Int))=false->true=bk x/\True)
theorem IU:DG:=by
 unfold DG;intro l ⟨hb,_⟩ _;unfold aK at hb;refine ⟨⟨by omega,by omega,rfl⟩,fun i ⟨h0,h1,h2⟩=>⟨fun hlt=>?_,fun hge=>?_⟩⟩
 ·have hlt:i<(l.length:Int):=tM hlt;have e1:=bI (0:Int) (xs:=l) (i:=i - 1) (by omega) (by omega);have e2:=bI (0:Int) (xs:=l) (i:=i) (by omega) hlt;rw [show i - 1+1=i by omega] at e1;simp only [ak] at h2 |-;rw [e1,e2] at h2;simp only [bk] at h2;rw [<- e2] at h2;refine ⟨by omega,by omega,by omega,by omega,hlt,fun hc=>?_,fun hc=>⟨by omega,⟨by omega,by omega,?_⟩,by omega⟩⟩
  ·have hc:=tM hc;rw [<- h2,Rz (by omega)];exact ⟨rfl,trivial⟩
  ·have hc:=uZ hc;rw [Rm (by omega),RN] at h2;rw [show i+1 - 1=i by omega];exact h2
 ·have hge:¬ i<(l.length:Int):=uZ hge;rw [AR (by rw [QH]; omega)] at h2;exact ⟨h2,trivial⟩
theorem Me:Lw.ok Tryz.prog 288:=aD (ann:=Nj) ap Tryz.func288 (by kernel_rfl) IU
end
section
def b9 (at_:Int):List aw->dY×Bool
 | []=>(bR,false)
 | s::l=>if s.1=at_/\s.2.2.2.2=false then (s.2,true) else b9 at_ l
theorem gF (at_:Int):∀ (l:List aw),b9 at_ l=(bR,false)\/∃ s∈l,s.1=at_/\s.2.2.2.2=false/\b9 at_ l=(s.2,true)
 | []=>.inl rfl
 | s::l=>by
  simp only [b9];split
  ·rename_i h;exact .inr ⟨s,by simp,h.1,h.2,rfl⟩
  ·rcases gF at_ l with h | ⟨t,h1,h2⟩
   ·exact .inl h
   ·exact .inr ⟨t,by simp [h1],h2⟩
def nameOf (v:Int):Int:=(if 256<v then 9999 else v) - 1
def ba:List aw->List Int
 | []=>[]
 | s::l=>if s.2.2.2.2=true then ba l else s.1::ba l
end
section
theorem kv:∀ l:List aw,(ba l).length<=l.length
 | []=>by simp [ba]
 | s::l=>by
  have:=kv l;simp only [ba];split <;> simp <;> omega
theorem fb (a:List Int):∀ s∈(ac a).1,a.length<=256/\du a s/\af s.2=0:=by
 intro s hs
 have hz:(ac a).2=0:=by
  unfold ac at hs |-;split at hs
  ·simp at hs
  ·rename_i cl;rw [if_neg cl];cases h:spotsS 0 a with
   | none=>rw [h] at hs; simp at hs
   | some l=>rfl
 have h:=gP hz;exact ⟨h.1,(h.2 s hs).1,(h.2 s hs).2⟩
end
section
theorem xF (at_:Int) (l:List Int) (r:List aw) (h:spotsS at_ l=some r):r.Pairwise (fun s t=>s.1<t.1):=by
 induction at_,l using spotsS.induct generalizing r with
 | case1 at_ =>
  simp only [spotsS,pS] at h;subst h;exact List.Pairwise.nil
 | case2 at_ v l hv ih =>
  rw [cT hv.1 hv.2] at h;obtain ⟨r',hr,rfl⟩:=Dm.1 h;have hl:=eg hv.1;refine Q9.2 ⟨fun t ht=>?_,ih r' hr⟩;have:=(rC _ _ _ hr t ht).1;simp only;omega
 | case3 at_ v l hv =>
  rw [eZ hv] at h;cases h
theorem ca (a:List Int):(ac a).1.Pairwise (fun s t=>s.1<t.1):=by
 unfold ac;split
 ·exact List.Pairwise.nil
 ·cases h:spotsS 0 a with
  | none=>exact List.Pairwise.nil
  | some l=>exact xF 0 a l h
theorem jO {α:Type} (k k':Int) (x:α):∀ (m:List (Int×α)),bA (gp m k x) k'=if k'=k then some x else bA m k'
 | []=>by
  simp only [gp,bA];by_cases h:k=k'
  ·simp [h]
  ·simp [h,Ne.symm h]
 | y::m=>by
  have ih:=jO k k' x m;simp only [gp];by_cases hy:y.1=k
  ·rw [if_pos hy];simp only [bA];by_cases h:k=k'
   ·simp [h]
   ·simp [h,Ne.symm h,hy]
  ·rw [if_neg hy];simp only [bA,ih];by_cases h:y.1=k'
   ·have:k'≠k:=fun e=>hy (h.trans e)
    simp [h,this]
   ·simp [h]
def oh (v:Int):Int->List aw->Option Int
 | _,[]=>none
 | i,s::l=>if s.2.2.2.2=false/\s.1+1=v then some i else oh v (i+1) l
theorem y9 {v:Int}:∀ (l:List aw) (i:Int),(∀ s∈l,s.1+1≠v)->oh v i l=none
 | [],_,_=>rfl
 | s::l,i,h=>by
  simp only [oh];rw [if_neg (fun e=>h s (by simp) e.2)];exact y9 l (i+1) (fun t ht=>h t (by simp [ht]))
theorem j9 (v:Int):∀ (l:List aw) (m:List (Int×Int)) (i:Int),l.Pairwise (fun s t=>s.1<t.1)->bA (ew m i l) v=(oh v i l).or (bA m v)
 | [],m,i,_=>rfl
 | s::l,m,i,h=>by
  obtain ⟨h1,h2⟩:=Q9.1 h;simp only [ew,oh];rw [j9 v l _ (i+1) h2];cases hf:s.2.2.2.2
  ·simp only [Qz,QW,Sb];rw [jO];by_cases hv:s.1+1=v
   ·rw [y9 l (i+1) (fun t ht e=>by have:=h1 t ht; omega),if_pos hv,if_pos hv.symm];rfl
   ·rw [if_neg hv,if_neg (fun e=>hv e.symm)]
  ·simp
theorem lL (v:Int):∀ (l:List aw) (i:Int),(oh v i l).isSome=fR (ba l) (v - 1)
 | [],_=>rfl
 | s::l,i=>by
  have ih:=lL v l (i+1);simp only [oh,ba];cases hf:s.2.2.2.2
  ·simp only [Sb,Qz,QW,fR,Sa];by_cases hv:s.1+1=v
   ·rw [if_pos hv];simp;left; omega
   ·rw [if_neg hv,ih];have:¬ s.1=v - 1:=by omega
    simp [this,fR]
  ·simp [ih]
theorem gu (n:Int):∀ (l:List aw),(∀ s∈l,0<=s.1/\s.1<=255)->(n<0\/255<n)->fR (ba l) n=false
 | [],_,_=>rfl
 | s::l,h,hn=>by
  have ih:=gu n l (fun t ht=>h t (by simp [ht])) hn;have hs:=h s (by simp);simp only [ba];split
  ·exact ih
  ·simp only [fR,Sa] at ih |-;rw [ih];simp;omega
theorem y8 {l:List aw} (hs:l.Pairwise (fun s t=>s.1<t.1)) (hr:∀ s∈l,0<=s.1/\s.1<=255) {v:Int} (hv:0<=v) :
  (decide (nameOf v=-1)||fR (ba l) (nameOf v))=(bA (cI l) v).isSome:=by
 unfold cI;rw [j9 v l _ 0 hs];by_cases h0:v=0
 ·subst h0;cases h:oh 0 0 l <;> simp [nameOf,bA]
 ·have e1:bA [((0:Int),(-1:Int))] v=none:=by simp [bA,Ne.symm h0]
  rw [e1,Option.or_none,lL];by_cases hb:256<v
  ·have:nameOf v=9998:=by simp [nameOf,hb]
   rw [this,gu 9998 l hr (by omega),gu (v - 1) l hr (by omega)];rfl
  ·have:nameOf v=v - 1:=by simp [nameOf,hb]
   rw [this];have:¬ v - 1=-1:=by omega
   simp [this]
theorem pn:∀ {l:List aw} {s:aw},l.Pairwise (fun s t=>s.1<t.1)->s∈l->s.2.2.2.2=false->b9 s.1 l=(s.2,true)
 | t::l,s,hs,hm,hf=>by
  obtain ⟨h1,h2⟩:=Q9.1 hs;simp only [b9];rcases Qs.1 hm with rfl | hm
  ·rw [if_pos ⟨rfl,hf⟩]
  ·rw [if_neg (fun e=>by have:=h1 s hm; omega)];exact pn h2 hm hf
theorem tV {a:List Int} {s:aw} (hw:∀ x∈a,ak .u64 x):∀ v∈aQ a s,0<=v:=by
 intro v hv;exact (hw v (RG (RW hv))).1
theorem cS {a:List Int}:∀ s∈(ac a).1,0<=s.1/\s.1<=255:=by
 intro s hs;obtain ⟨h1,h2,h3⟩:=fb a s hs;unfold du at h2;omega
def isB (l:List aw) (at_:Int):Bool:=(b9 at_ l).2
theorem fQ (n:Int):∀ l:List aw,fR (ba l) n=isB l n
 | []=>rfl
 | s::l=>by
  have ih:=fQ n l;unfold isB at ih |-;simp only [ba,b9];cases hf:s.2.2.2.2
  ·simp only [Qz,QW,SI,fR,Sa];by_cases hv:s.1=n
   ·rw [if_pos hv];simp [hv]
   ·rw [if_neg hv];simp only [fR] at ih;rw [<- ih];simp [hv]
  ·simp only [if_true,and_false,QW,Bool.true_eq_false];exact ih
theorem pb {a:List Int} (hw:∀ x∈a,ak .u64 x) (hc:(am a).2.2=0):∀ s∈(ac a).1,∀ v∈aQ a s,v=0\/1<=v/\v<=256/\isB (ac a).1 (v - 1)=true:=by
 intro s hs v hv;obtain ⟨_,_,_,_,_,hok,_⟩:=bp hc;have h1:=Qy.1 (Qy.1 hok s hs) v hv;have h0:=tV hw v hv;rw [<- y8 (ca a) cS h0] at h1;by_cases hz:v=0
 ·exact .inl hz
 refine .inr ?_
 have hr:∀ n,fR (ba (ac a).1) n=true->0<=n/\n<=255:=fun n hn=>by
  refine ⟨Int.not_lt.1 fun h=>?_,Int.not_lt.1 fun h=>?_⟩
  ·rw [gu n _ cS (.inl h)] at hn; cases hn
  ·rw [gu n _ cS (.inr h)] at hn; cases hn
 unfold nameOf at h1;split at h1
 ·have h2:fR (ba (ac a).1) (9999 - 1)=true:=by simpa using h1
  have:=hr _ h2;omega
 ·have h2:fR (ba (ac a).1) (v - 1)=true:=by
   rcases Ri _ _ ▸ h1 with h | h
   ·have:=tM h; omega
   ·exact h
  have:=hr _ h2;refine ⟨by omega,by omega,?_⟩;rw [<- fQ];exact h2
theorem MA {a:List Int} {at_:Int} (h:isB (ac a).1 at_=true):(at_,(b9 at_ (ac a).1).1)∈(ac a).1/\du a (at_,(b9 at_ (ac a).1).1)/\af (b9 at_ (ac a).1).1=0/\(b9 at_ (ac a).1).1.2.2.2=false/\a.length<=256:=by
 rcases gF at_ (ac a).1 with e | ⟨s,h1,h2,h3,e⟩
 ·unfold isB at h;rw [e] at h;cases h
 ·obtain ⟨k1,k2,k3⟩:=fb a s h1;rw [e];simp only;subst h2;exact ⟨h1,k2,k3,h3,k1⟩
end
section
end
section
abbrev jW:Ty:=.pair ty_I ty_I
abbrev db:=Int×Int
def Gf:Spec:={ Ts:=[ia],Rs:=[.dat ty_I],pre:=fun _=>True,F:=fun (h:dY)=>(if af h=0 then aa h else 0:Int) }
def vI:Prop :=
  ∀ (x:Int×Int×Int×Bool),ak .i64 x.1/\ak .i64 x.2.1/\ak .i64 x.2.2.1/\True->True->True/\((if af x=0 then aa x else (0:Int))=if af x=0 then aa x else (0:Int))/\True
theorem Cq:vI:=by
 unfold vI;intro h _ _;simp
theorem vV:Gf.ok Tryz.prog 217:=aD (ann:=cF) (ae jB ap) Tryz.func217 (by kernel_rfl) Cq
def aT (a:List Int):List aw×Int:=if (am a).2.2≠0 then ([],(am a).2.2) else ((ac a).1,0)
def Dd:Spec:={ Ts:=[.arr bi],Rs:=[.own 202 cM,.dat ty_I],pre:=fun _=>True,F:=aT }
def tg:Prop :=
  ∀ (x:List Int),(x.length * 8<=aK/\∀ (x_1:Int),x_1∈x->ak .u64 x_1)->True->True/\(decide ((am x).2.2≠0)=true->([]:List (Int×Int×Int×Int×Bool))=(aT x).1/\(am x).2.2=(aT x).2/\True)/\(decide ((am x).2.2≠0)=false->True/\(ac x).1=(aT x).1/\(ac x).2=(aT x).2/\True)
theorem Ai:tg:=by
 unfold tg;intro a _ _;have h:=bp (a:=a);unfold aT;refine ⟨trivial,fun hc=>?_,fun hc=>?_⟩
 ·have hc:(am a).2.2≠0:=by simpa using hc
  rw [if_pos hc];exact ⟨rfl,rfl,trivial⟩
 ·have hc:(am a).2.2=0:=by simpa using hc
  obtain ⟨_,_,_,h4,_⟩:=h hc;rw [if_neg (by omega),h4];exact ⟨trivial,rfl,rfl,trivial⟩
theorem nj:Dd.ok Tryz.prog 212:=aD (ann:=cF) (ae jA (ae jz ap)) Tryz.func212 (by kernel_rfl) Ai
def mM (out:List db) (n:Int):List db:=out.set (out.length - 1) ((out.getD (out.length - 1) (0,0)).1,(out.getD (out.length - 1) (0,0)).2+n)
def aO:Bool->List db->List aw->List db
 | _,out,[]=>out
 | p,out,s::l=>aO s.2.2.2.2 (if s.2.2.2.2=true then (if p=true then mM out (aa s.2) else out++[(s.1,aa s.2)]) else out) l
theorem gg (out:List db) (n:Int):(mM out n).length=out.length:=by simp [mM]
def dd (l:List aw) (i:Int):Bool:=decide (0<i)&&(l.getD (i - 1).toNat (0,0,0,0,false)).2.2.2.2
def HG:Nat->Option LoopGen
 | 3=>some { rd:=[.dat 6 (.arr cM)],A:=fun (l:List aw)=>{ cs:=[.own 3 105 jW,.dat 8 ty_I],inv:=fun ((out,i):List db×Int)=>0<=i/\i<=l.length/\l.length<=256/\(∀ s∈l,af s.2=0)/\out.length<=i/\(dd l i=true->0<out.length)/\(∀ r∈out,0<=r.2/\r.2<=256 * i)/\aO (dd l i) out (l.drop i.toNat)=aO false [] l,mu:=fun ((_,i):List db×Int)=>(l.length - i).toNat } }
 | _=>none
def Gh:Spec:={ Ts:=[.arr cM],Rs:=[.own 105 jW],pre:=fun (l:List aw)=>l.length<=256/\∀ s∈l,af s.2=0,F:=fun (l:List aw)=>aO false [] l }
def vK:Prop :=
  ∀ (x:List (Int×Int×Int×Int×Bool)),(x.length * (8+(8+(8+(8+8))))<=aK/\∀ (x_1:Int×Int×Int×Int×Bool),x_1∈x->ak .i64 x_1.1/\ak .i64 x_1.2.1/\ak .i64 x_1.2.2.1/\ak .i64 x_1.2.2.2.1/\True)->(x.length<=256/\∀ (s:aw),s∈x->af s.2=0)->((0:Int)<=0/\0<=(x.length:Int)/\x.length<=256/\(∀ (s:aw),s∈x->af s.2=0)/\(↑(0:Nat):Int)<=0/\(dd x 0=true->(0:Nat)<0)/\(∀ (r:db),r∈([]:List (Int×Int))->0<=r.2/\r.2<=256 * 0)/\aO (dd x 0) ([]:List (Int×Int)) (List.drop (Int.toNat 0) x)=aO false ([]:List db) x)/\∀ (x_1:List (Int×Int)×Int),(fun (v0:type_of% (x.getD x_1.2.toNat (0,0,0,0,false)))=>0<=x_1.2/\x_1.2<=(x.length:Int)/\x.length<=256/\(∀ (s:aw),s∈x->af s.2=0)/\(x_1.1.length:Int)<=x_1.2/\(dd x x_1.2=true->0<x_1.1.length)/\(∀ (r:db),r∈x_1.1->0<=r.2/\r.2<=256 * x_1.2)/\aO (dd x x_1.2) x_1.1 (List.drop x_1.2.toNat x)=aO false ([]:List db) x->(decide (x_1.2<(x.length:Int))=true->0<=x_1.2/\x_1.2<(x.length:Int)/\((!v0.2.2.2.2)=true->ak .i64 (x_1.2+1)/\(0<=x_1.2+1/\x_1.2+1<=(x.length:Int)/\x.length<=256/\(∀ (s:aw),s∈x->af s.2=0)/\(x_1.1.length:Int)<=x_1.2+1/\(dd x (x_1.2+1)=true->0<x_1.1.length)/\(∀ (r:db),r∈x_1.1->0<=r.2/\r.2<=256 * (x_1.2+1))/\aO (dd x (x_1.2+1)) x_1.1 (List.drop (x_1.2+1).toNat x)=aO false ([]:List db) x)/\((x.length:Int) - (x_1.2+1)).toNat<((x.length:Int) - x_1.2).toNat)/\((!v0.2.2.2.2)=false->(decide (0<x_1.2)=true->ak .i64 (x_1.2 - 1))/\(decide (0<x_1.2)=true->0<=x_1.2 - 1)/\(decide (0<x_1.2)=true->x_1.2 - 1<(x.length:Int))/\((decide (0<x_1.2)&&(x.getD (x_1.2 - 1).toNat (0,0,0,0,false)).2.2.2.2)=true->ak .i64 ((x_1.1.length:Int) - 1)/\0<=(x_1.1.length:Int) - 1/\(x_1.1.length:Int) - 1<(x_1.1.length:Int)/\((x_1.1.length:Int) - 1).toNat<x_1.1.length/\True/\ak .i64 ((x_1.1.getD ((x_1.1.length:Int) - 1).toNat (0,0)).2+if af v0.2=0 then aa v0.2 else (0:Int))/\0<=(x_1.1.length:Int) - 1/\(x_1.1.length:Int) - 1<(x_1.1.length:Int)/\((x_1.1.length:Int) - 1).toNat<x_1.1.length/\ak .i64 (x_1.2+1)/\(0<=x_1.2+1/\x_1.2+1<=(x.length:Int)/\x.length<=256/\(∀ (s:aw),s∈x->af s.2=0)/\(↑(x_1.1.set ((x_1.1.length:Int) - 1).toNat ((x_1.1.getD ((x_1.1.length:Int) - 1).toNat (0,0)).1,(x_1.1.getD ((x_1.1.length:Int) - 1).toNat (0,0)).2+if af v0.2=0 then aa v0.2 else (0:Int))).length:Int)<=x_1.2+1/\(dd x (x_1.2+1)=true->0<(x_1.1.set ((x_1.1.length:Int) - 1).toNat ((x_1.1.getD ((x_1.1.length:Int) - 1).toNat (0,0)).1,(x_1.1.getD ((x_1.1.length:Int) - 1).toNat (0,0)).2+if af v0.2=0 then aa v0.2 else (0:Int))).length)/\(∀ (r:db),r∈x_1.1.set ((x_1.1.length:Int) - 1).toNat ((x_1.1.getD ((x_1.1.length:Int) - 1).toNat (0,0)).1,(x_1.1.getD ((x_1.1.length:Int) - 1).toNat (0,0)).2+if af v0.2=0 then aa v0.2 else (0:Int))->0<=r.2/\r.2<=256 * (x_1.2+1))/\aO (dd x (x_1.2+1)) (x_1.1.set ((x_1.1.length:Int) - 1).toNat ((x_1.1.getD ((x_1.1.length:Int) - 1).toNat (0,0)).1,(x_1.1.getD ((x_1.1.length:Int) - 1).toNat (0,0)).2+if af v0.2=0 then aa v0.2 else (0:Int))) (List.drop (x_1.2+1).toNat x)=aO false ([]:List db) x)/\((x.length:Int) - (x_1.2+1)).toNat<((x.length:Int) - x_1.2).toNat)/\((decide (0<x_1.2)&&(x.getD (x_1.2 - 1).toNat (0,0,0,0,false)).2.2.2.2)=false->True/\(x_1.1.length+[(v0.1,if af v0.2=0 then aa v0.2 else (0:Int))].length) * (8+8)<=aK/\ak .i64 (x_1.2+1)/\(0<=x_1.2+1/\x_1.2+1<=(x.length:Int)/\x.length<=256/\(∀ (s:aw),s∈x->af s.2=0)/\(↑(x_1.1++[(v0.1,if af v0.2=0 then aa v0.2 else (0:Int))]).length:Int)<=x_1.2+1/\(dd x (x_1.2+1)=true->0<(x_1.1++[(v0.1,if af v0.2=0 then aa v0.2 else (0:Int))]).length)/\(∀ (r:db),r∈x_1.1++[(v0.1,if af v0.2=0 then aa v0.2 else (0:Int))]->0<=r.2/\r.2<=256 * (x_1.2+1))/\aO (dd x (x_1.2+1)) (x_1.1++[(v0.1,if af v0.2=0 then aa v0.2 else (0:Int))]) (List.drop (x_1.2+1).toNat x)=aO false ([]:List db) x)/\((x.length:Int) - (x_1.2+1)).toNat<((x.length:Int) - x_1.2).toNat)))/\(decide (x_1.2<(x.length:Int))=false->x_1.1=aO false ([]:List db) x/\True)) (x.getD x_1.2.toNat (0,0,0,0,false))
theorem Ct:vK:=by
 unfold vK;intro l ⟨hb,_⟩ ⟨hl,hf⟩;refine ⟨⟨by omega,by omega,hl,hf,by simp,by simp [dd],by simp,by simp [dd]⟩,fun ⟨out,i⟩ ⟨h0,h1,_,_,h2,h3,h4,h5⟩=>⟨fun hlt=>?_,fun hge=>?_⟩⟩
 ·have hlt:i<(l.length:Int):=tM hlt;simp only at h0 h1 h2 h3 h4 h5 |-;rw [bI ((0,0,0,0,false):aw) h0 hlt] at h5;simp only [aO] at h5;have hs:=hf _ (aI ((0,0,0,0,false):aw) h0 hlt)
  have hlf:dd l (i+1)=(l.getD i.toNat (0,0,0,0,false)).2.2.2.2:=by
   unfold dd;rw [show i+1 - 1=i by omega];simp;omega
  rw [hlf,if_pos hs];have hz:=a7 hs;have hL:aa (l.getD i.toNat (0,0,0,0,false)).2=1+(l.getD i.toNat (0,0,0,0,false)).2.1+(l.getD i.toNat (0,0,0,0,false)).2.2.1:=rfl;have hlfi:dd l i=(decide (0<i)&&(l.getD (i - 1).toNat (0,0,0,0,false)).2.2.2.2):=rfl;rw [<- hlfi];generalize l.getD i.toNat (0,0,0,0,false)=s at *;generalize aa s.2=L at *;simp only [ak];refine ⟨h0,hlt,fun hc=>?_,fun hc=>⟨fun hp=>by have:=tM hp; omega,fun hp=>by have:=tM hp; omega,fun _=>by omega,fun hp=>?_,fun hp=>?_⟩⟩
  ·have hc:s.2.2.2.2=false:=by simpa using hc
   rw [hc] at h5 |-;simp only [Qz,QW] at h5;exact ⟨by omega,⟨by omega,by omega,hl,hf,by omega,fun h=>by simp at h,fun r hr=>by have:=h4 r hr; omega,h5⟩,by omega⟩
  ·have hc:s.2.2.2.2=true:=by simpa using hc
   rw [hc,hp] at h5;simp only [if_true] at h5;rw [hc];have hlen:=h3 hp;have hlast:=h4 _ (aI ((0,0):db) (xs:=out) (i:=(out.length:Int) - 1) (by omega) (by omega));have e:((out.length:Int) - 1).toNat=out.length - 1:=by omega
   rw [e] at hlast |-;have hbump:out.set (out.length - 1) ((out.getD (out.length - 1) (0,0)).1,(out.getD (out.length - 1) (0,0)).2+L)=mM out L:=rfl;rw [hbump];rw [gg];refine ⟨by omega,by omega,by omega,by omega,trivial,by omega,by omega,by omega,by omega,by omega,⟨by omega,by omega,hl,hf,by omega,fun _=>hlen,fun r hr=>?_,h5⟩,by omega⟩;rcases Rb hr with hr | rfl
   ·have:=h4 r hr; omega
   ·simp only; omega
  ·have hc:s.2.2.2.2=true:=by simpa using hc
   rw [hc,hp] at h5;simp only [if_true,Qz,QW] at h5;rw [hc];unfold aK;simp only [KK,HN,QQ];refine ⟨trivial,by omega,by omega,⟨by omega,by omega,hl,hf,by omega,fun _=>by omega,fun r hr=>?_,h5⟩,by omega⟩;rcases Qx.1 hr with hr | hr
   ·have:=h4 r hr; omega
   ·simp only [QA] at hr;subst hr;simp only;omega
 ·have hge:¬ i<(l.length:Int):=uZ hge;simp only at h5;rw [cE hge] at h5;exact ⟨h5,trivial⟩
theorem vW:Gh.ok Tryz.prog 213:=aD (ann:=HG) (ae vV ap) Tryz.func213 (by kernel_rfl) Ct
def an (a:List Int):List db×Int:=if (am a).2.2≠0 then ([],(am a).2.2) else (aO false [] (ac a).1,0)
def Dc:Spec:={ Ts:=[.arr bi],Rs:=[.own 105 jW,.dat ty_I],pre:=fun _=>True,F:=an }
def tf:Prop :=
  ∀ (x:List Int),(x.length * 8<=aK/\∀ (x_1:Int),x_1∈x->ak .u64 x_1)->True->True/\(decide ((aT x).2≠0)=true->([]:List (Int×Int))=(an x).1/\(aT x).2=(an x).2/\True)/\(decide ((aT x).2≠0)=false->((aT x).1.length<=256/\∀ (s:aw),s∈(aT x).1->af s.2=0)/\aO false ([]:List db) (aT x).1=(an x).1/\0=(an x).2/\True)
theorem Ah:tf:=by
 unfold tf;intro a _ _;have h:=bp (a:=a);have hlen:=fw a;unfold aT an;refine ⟨trivial,fun hc=>?_,fun hc=>?_⟩
 ·have hc:(am a).2.2≠0:=by
   intro e;rw [if_neg (by omega)] at hc;simp at hc
  rw [if_pos hc,if_pos hc];exact ⟨rfl,rfl,trivial⟩
 ·have hc:(am a).2.2=0:=by
   apply Rc;intro e;rw [if_pos e] at hc;simp [e] at hc
  obtain ⟨_,_,h3,h4,_,_,h5⟩:=h hc;rw [if_neg (by omega),if_neg (by omega)];rw [h3] at h5;exact ⟨⟨hlen,fun s hs=>(h5 s hs).2⟩,rfl,rfl,trivial⟩
theorem kQ:Dc.ok Tryz.prog 154:=aD (ann:=cF) (ae nj (ae vW ap)) Tryz.func154 (by kernel_rfl) Ah
def aV (a:List Int) (at_ n:Int):List Int:=if 0<n then (eT a at_ n 0 n).set at_.toNat (aC (0,n - 1,0,true)) else a
def iF (a:List Int) (at_ n:Int):Prop:=0<=at_/\0<=n/\at_+n<=a.length/\a.length<=256
theorem wJ {a:List Int} {at_ n v:Int} (h:iF a at_ n):iB a at_ n v=(eT a at_ n v n,0):=by
 obtain ⟨h1,h2,h3,h4⟩:=h
 have:eL a.length n [at_]=0:=by
  rw [CG,if_neg (by omega),if_pos];rw [oo];omega
 unfold iB;rw [if_pos this]
def NK:Spec:={ Ts:=[.arr bi,ty_I,ty_I],Rs:=[.own 45 bi],pre:=fun ((a,at_,n):List Int×Int×Int)=>iF a at_ n/\1<=n,F:=fun ((a,at_,n):List Int×Int×Int)=>aV a at_ n }
def H0:Prop :=
  ∀ (x:List Int×Int×Int),(x.1.length * 8<=aK/\∀ (x_1:Int),x_1∈x.1->ak .u64 x_1)/\ak .i64 x.2.1/\ak .i64 x.2.2->iF x.1 x.2.1 x.2.2/\1<=x.2.2->(decide (x.2.2=0)=true->False)/\(decide (x.2.2=0)=false->ak .i64 (x.2.2 - 1)/\True/\True/\0<=x.2.1/\x.2.1<(↑(iB x.1 x.2.1 x.2.2 0).1.length:Int)/\x.2.1.toNat<(iB x.1 x.2.1 x.2.2 0).1.length/\(iB x.1 x.2.1 x.2.2 0).1.set x.2.1.toNat (if af (0,x.2.2 - 1,0,true)=0 then aC (0,x.2.2 - 1,0,true) else (0:Int))=aV x.1 x.2.1 x.2.2/\True)
theorem K6:H0:=by
 unfold H0;intro ⟨a,at_,n⟩ _ ⟨hp,h1⟩;simp only at hp h1 |-;rw [wJ hp];obtain ⟨p1,p2,p3,p4⟩:=hp;have hf:af (0,n - 1,0,true)=0:=by simp [af,aa]; omega
 have hl:=gc a at_ n 0 n p1 p3 p2 (by omega);rw [if_pos hf];have hE:aV a at_ n=(eT a at_ n 0 n).set at_.toNat (aC (0,n - 1,0,true)):=by unfold aV; rw [if_pos (by omega)]
 rw [hE];simp only [ak];exact ⟨fun h=>by have:=tM h; omega,fun _=>⟨by omega,trivial,trivial,by omega,by omega,by omega,trivial,trivial⟩⟩
theorem N5:NK.ok Tryz.prog 215:=aD (ann:=cF) (ae jc (ae ni ap)) Tryz.func215 (by kernel_rfl) K6
def NJ:Spec:={ Ts:=[.arr bi,ty_I,ty_I],Rs:=[.dat (.arr bi)],al:=true,pre:=fun ((a,at_,n):List Int×Int×Int)=>iF a at_ n,F:=fun ((a,at_,n):List Int×Int×Int)=>aV a at_ n }
def HZ:Prop :=
  ∀ (x:List Int×Int×Int),(x.1.length * 8<=aK/\∀ (x_1:Int),x_1∈x.1->ak .u64 x_1)/\ak .i64 x.2.1/\ak .i64 x.2.2->iF x.1 x.2.1 x.2.2->(decide (x.2.2=0)=true->x.1=aV x.1 x.2.1 x.2.2/\True)/\(decide (x.2.2=0)=false->ak .i64 (x.2.2 - 1)/\True/\True/\0<=x.2.1/\x.2.1<(↑(iB x.1 x.2.1 x.2.2 0).1.length:Int)/\x.2.1.toNat<(iB x.1 x.2.1 x.2.2 0).1.length/\(iB x.1 x.2.1 x.2.2 0).1.set x.2.1.toNat (if af (0,x.2.2 - 1,0,true)=0 then aC (0,x.2.2 - 1,0,true) else (0:Int))=aV x.1 x.2.1 x.2.2/\True)
theorem K5:HZ:=by
 unfold HZ;intro ⟨a,at_,n⟩ _ hp;simp only at hp |-;rw [wJ hp];obtain ⟨p1,p2,p3,p4⟩:=hp;refine ⟨fun h=>?_,fun h=>?_⟩
 ·have h:=tM h;unfold aV;rw [if_neg (by omega)];exact ⟨rfl,trivial⟩
 ·have h:=uZ h;have hf:af (0,n - 1,0,true)=0:=by simp [af,aa]; omega
  have hl:=gc a at_ n 0 n p1 p3 p2 (by omega);rw [if_pos hf];have hE:aV a at_ n=(eT a at_ n 0 n).set at_.toNat (aC (0,n - 1,0,true)):=by unfold aV; rw [if_pos (by omega)]
  rw [hE];simp only [ak];exact ⟨by omega,trivial,trivial,by omega,by omega,by omega,trivial,trivial⟩
theorem N4:NJ.ok Tryz.prog 215:=aD (ann:=cF) (ae jc (ae ni ap)) Tryz.func215 (by kernel_rfl) K5
def cL (a:List Int):List Int×Int:=if (am a).2.2≠0 then ([],(am a).2.2) else ((aO false [] (ac a).1).foldl (fun a r=>aV a r.1 r.2) a,0)
theorem uh {a:List Int} {at_ n:Int} (h:iF a at_ n):(aV a at_ n).length=a.length:=by
 obtain ⟨p1,p2,p3,p4⟩:=h;unfold aV;split
 ·rw [R4];exact gc a at_ n 0 n p1 p3 p2 (by omega)
 ·rfl
def fI:Int->Int->List aw->Prop
 | s,e,[]=>s=e
 | s,e,x::r=>x.1=s/\1<=aa x.2/\fI (s+aa x.2) e r
theorem pU (at_:Int) (l:List Int) (r:List aw) (h:spotsS at_ l=some r):fI at_ (at_+l.length) r:=by
 induction at_,l using spotsS.induct generalizing r with
 | case1 at_ =>
  simp only [spotsS,pS] at h;subst h;simp [fI]
 | case2 at_ v l hv ih =>
  rw [cT hv.1 hv.2] at h;obtain ⟨r',hr,rfl⟩:=Dm.1 h;have hl:=eg hv.1;have h2:=ih r' hr;refine ⟨rfl,hl.1,?_⟩
  have e:at_+aa (aW v)+(((v::l).drop (aa (aW v)).toNat).length:Nat)=at_+((v::l).length:Nat):=by
   rw [QH];have:=hv.2;omega
  rw [e] at h2;exact h2
 | case3 at_ v l hv =>
  rw [eZ hv] at h;cases h
theorem fZ {a:List Int} (h:(ac a).2=0):fI 0 a.length (ac a).1:=by
 unfold ac at h |-;split at h
 ·simp at h
 rename_i cl;rw [if_neg cl];cases e:spotsS 0 a with
 | none=>rw [e] at h; simp at h
 | some l =>
  have:=pU 0 a l e;rw [Int.zero_add] at this;exact this
def nt (n:Int) (l:List db):Prop:=∀ r∈l,0<=r.1/\1<=r.2/\r.1+r.2<=n
theorem qV:∀ (l:List aw) (s e:Int) (p:Bool) (out:List db),fI s e l->0<=s->nt s out->(p=true->0<out.length/\(out.getD (out.length - 1) (0,0)).1+(out.getD (out.length - 1) (0,0)).2=s)->nt e (aO p out l)/\s<=e
 | [],s,e,p,out,ht,h0,ho,_=>by
  have:s=e:=ht;subst this;exact ⟨ho,RX _⟩
 | x::l,s,e,p,out,⟨h1,h2,h3⟩,h0,ho,hp=>by
  simp only [aO];have up:nt (s+aa x.2) out:=fun r hr=>by have:=ho r hr; omega
  cases hf:x.2.2.2.2
  ·have ih:=qV l _ e false out h3 (by omega) up (fun h=>by cases h);simp only [Qz,QW];exact ⟨ih.1,by omega⟩
  ·simp only [if_true];cases p
   ·have ih:=qV l _ e true (out++[(x.1,aa x.2)]) h3 (by omega) (fun r hr=>by
     rcases Qx.1 hr with hr | hr
     ·exact up r hr
     ·simp only [QA] at hr;subst hr;simp only;omega) (fun _=>⟨by simp,by simp; omega⟩)
    simp only [Qz,QW];exact ⟨ih.1,by omega⟩
   ·obtain ⟨q1,q2⟩:=hp rfl;have hlast:=ho _ (aI ((0,0):db) (xs:=out) (i:=(out.length:Int) - 1) (by omega) (by omega));rw [show ((out.length:Int) - 1).toNat=out.length - 1 by omega] at hlast
    have ih:=qV l _ e true (mM out (aa x.2)) h3 (by omega) (fun r hr=>by
     rcases Rb hr with hr | rfl
     ·exact up r hr
     ·simp only
      omega) (fun _=>⟨by rw [gg]; exact q1,by
       rw [gg];unfold mM;simp [show out.length - 1<out.length by omega];simp [show out.length - 1<out.length by omega] at q2;omega⟩)
    simp only [if_true];exact ⟨ih.1,by omega⟩
theorem qU:∀ (l:List aw) (p:Bool) (out:List db),(aO p out l).length<=out.length+l.length
 | [],_,_=>by simp [aO]
 | x::l,p,out=>by
  have h1:=qU l x.2.2.2.2 (if x.2.2.2.2=true then (if p=true then mM out (aa x.2) else out++[(x.1,aa x.2)]) else out);simp only [aO,HN]
  have:(if x.2.2.2.2=true then (if p=true then mM out (aa x.2) else out++[(x.1,aa x.2)]) else out).length<=out.length+1:=by
   split
   ·split
    ·rw [gg]; omega
    ·simp
   ·omega
  omega
theorem nZ {a:List Int} (h:(ac a).2=0):nt a.length (aO false [] (ac a).1)/\(aO false [] (ac a).1).length<=256:=by
 have h1:=qV _ 0 a.length false [] (fZ h) (RX _) (fun r hr=>by cases hr) (fun h=>by cases h);have h2:=qU (ac a).1 false [];have h3:=fw a;exact ⟨h1.1,by simp at h2; omega⟩
def HF:Nat->Option LoopGen
 | 6=>some { rd:=[.own 19 105 jW,.own 0 45 bi],A:=fun ((g,b):List db×List Int)=>{ cs:=[.own 0 45 bi,.dat 21 ty_I],inv:=fun ((a,i):List Int×Int)=>0<=i/\i<=g.length/\g.length<=256/\a.length<=256/\nt a.length g/\a=(g.take i.toNat).foldl (fun a r=>aV a r.1 r.2) b,mu:=fun ((_,i):List Int×Int)=>(g.length - i).toNat } }
 | _=>none
def Gg:Spec:={ Ts:=[.arr bi],Rs:=[.own 45 bi,.dat ty_I],pre:=fun _=>True,F:=cL }
def vJ:Prop :=
  ∀ (x:List Int),(x.length * 8<=aK/\∀ (x_1:Int),x_1∈x->ak .u64 x_1)->True->True/\(decide ((aT x).2≠0)=true->([]:List Int)=(cL x).1/\(aT x).2=(cL x).2/\True)/\(decide ((aT x).2≠0)=false->True/\((aT x).1.length<=256/\∀ (s:aw),s∈(aT x).1->af s.2=0)/\((0:Int)<=0/\0<=(↑(aO false ([]:List db) (aT x).1).length:Int)/\(aO false ([]:List db) (aT x).1).length<=256/\x.length<=256/\nt (x.length:Int) (aO false ([]:List db) (aT x).1)/\x=List.foldl (fun (a:List Int) (r:db)=>aV a r.1 r.2) x (List.take (Int.toNat 0) (aO false ([]:List db) (aT x).1)))/\∀ (x_1:List Int×Int),0<=x_1.2/\x_1.2<=(↑(aO false ([]:List db) (aT x).1).length:Int)/\(aO false ([]:List db) (aT x).1).length<=256/\x_1.1.length<=256/\nt (x_1.1.length:Int) (aO false ([]:List db) (aT x).1)/\x_1.1=List.foldl (fun (a:List Int) (r:db)=>aV a r.1 r.2) x (List.take x_1.2.toNat (aO false ([]:List db) (aT x).1))->(decide (x_1.2<(↑(aO false ([]:List db) (aT x).1).length:Int))=true->0<=x_1.2/\x_1.2<(↑(aO false ([]:List db) (aT x).1).length:Int)/\x_1.2.toNat<(aO false ([]:List db) (aT x).1).length/\(iF x_1.1 ((aO false ([]:List db) (aT x).1).getD x_1.2.toNat (0,0)).1 ((aO false ([]:List db) (aT x).1).getD x_1.2.toNat (0,0)).2/\1<=((aO false ([]:List db) (aT x).1).getD x_1.2.toNat (0,0)).2)/\ak .i64 (x_1.2+1)/\(0<=x_1.2+1/\x_1.2+1<=(↑(aO false ([]:List db) (aT x).1).length:Int)/\(aO false ([]:List db) (aT x).1).length<=256/\(aV x_1.1 ((aO false ([]:List db) (aT x).1).getD x_1.2.toNat (0,0)).1 ((aO false ([]:List db) (aT x).1).getD x_1.2.toNat (0,0)).2).length<=256/\nt (↑(aV x_1.1 ((aO false ([]:List db) (aT x).1).getD x_1.2.toNat (0,0)).1 ((aO false ([]:List db) (aT x).1).getD x_1.2.toNat (0,0)).2).length:Int) (aO false ([]:List db) (aT x).1)/\aV x_1.1 ((aO false ([]:List db) (aT x).1).getD x_1.2.toNat (0,0)).1 ((aO false ([]:List db) (aT x).1).getD x_1.2.toNat (0,0)).2=List.foldl (fun (a:List Int) (r:db)=>aV a r.1 r.2) x (List.take (x_1.2+1).toNat (aO false ([]:List db) (aT x).1)))/\((↑(aO false ([]:List db) (aT x).1).length:Int) - (x_1.2+1)).toNat<((↑(aO false ([]:List db) (aT x).1).length:Int) - x_1.2).toNat)/\(decide (x_1.2<(↑(aO false ([]:List db) (aT x).1).length:Int))=false->x_1.1=(cL x).1/\0=(cL x).2/\True))
theorem Cs:vJ:=by
 unfold vJ;intro a _ _;have h:=bp (a:=a);have hlen:=fw a;unfold aT cL;refine ⟨trivial,fun hc=>?_,fun hc=>?_⟩
 ·have hc:(am a).2.2≠0:=by
   intro e;rw [if_neg (by omega)] at hc;simp at hc
  rw [if_pos hc,if_pos hc];exact ⟨rfl,rfl,trivial⟩
 ·have hc:(am a).2.2=0:=by
   apply Rc;intro e;rw [if_pos e] at hc;simp [e] at hc
  obtain ⟨hal,_,h3,h4,_,_,h5⟩:=h hc;rw [if_neg (by omega),if_neg (by omega)];rw [h3] at h5;obtain ⟨g1,g2⟩:=nZ h4;simp only;generalize aO false [] (ac a).1=g at *;refine ⟨trivial,⟨hlen,fun s hs=>(h5 s hs).2⟩,⟨by omega,by omega,g2,hal,g1,rfl⟩,fun ⟨b,i⟩ ⟨q0,q1,_,q2,q3,q4⟩=>⟨fun hlt=>?_,fun hge=>?_⟩⟩
  ·have hlt:i<(g.length:Int):=tM hlt;simp only at q0 q1 q2 q3 q4 |-;have e:=a8 ((0,0):db) q0 hlt;have hr:=q3 _ (aI ((0,0):db) q0 hlt);rw [e,Tl,<- q4];generalize g.getD i.toNat (0,0)=r at *;have hp:iF b r.1 r.2:=⟨hr.1,by omega,hr.2.2,q2⟩;rw [uh hp];simp only [ak];exact ⟨q0,hlt,by omega,⟨hp,hr.2.1⟩,by omega,⟨by omega,by omega,g2,q2,q3,rfl⟩,by omega⟩
  ·have hge:¬ i<(g.length:Int):=uZ hge;simp only at q4;rw [bT hge] at q4;exact ⟨q4,trivial,trivial⟩
theorem GR:Gg.ok Tryz.prog 156:=aD (ann:=HF) (ae nj (ae bK (ae vW (ae N5 ap)))) Tryz.func156 (by kernel_rfl) Cs
def b7 (l:List aw) (at_:Int) (fr:Bool):aw×Bool :=
 if ag (fun s:aw=>decide (s.1=at_)&&s.2.2.2.2 == fr) 0 l<0 then ((0,0,0,0,false),false) else (l.getD (ag (fun s:aw=>decide (s.1=at_)&&s.2.2.2.2 == fr) 0 l).toNat (0,0,0,0,false),true)
def LG:Spec:={ Ts:=[cM,.ref ty_I,.ref .bool],Rs:=[.dat .bool],pre:=fun _=>True,F:=fun ((s,at_,fr):aw×Int×Bool)=>decide (s.1=at_)&&s.2.2.2.2 == fr }
def DO:Prop :=
  ∀ (x:(Int×Int×Int×Int×Bool)×Int×Bool),(ak .i64 x.1.1/\ak .i64 x.1.2.1/\ak .i64 x.1.2.2.1/\ak .i64 x.1.2.2.2.1/\True)/\ak .i64 x.2.1/\True->True->(decide (x.1.1=x.2.1)&&x.1.2.2.2.2 == x.2.2)=(decide (x.1.1=x.2.1)&&x.1.2.2.2.2 == x.2.2)/\True
theorem I2:DO:=by
 unfold DO;intro ⟨s,at_,fr⟩ _ _;simp
theorem Mm:LG.ok Tryz.prog 252:=aD (ann:=cF) ap Tryz.func252 (by kernel_rfl) I2
def Gi:Spec:={ Ts:=[.arr cM,ty_I,.bool],Rs:=[.dat cM,.dat .bool],pre:=fun _=>True,F:=fun ((l,at_,fr):List aw×Int×Bool)=>b7 l at_ fr }
def vL:Prop :=
  ∀ (x:List (Int×Int×Int×Int×Bool)×Int×Bool),(x.1.length * (8+(8+(8+(8+8))))<=aK/\∀ (x_1:Int×Int×Int×Int×Bool),x_1∈x.1->ak .i64 x_1.1/\ak .i64 x_1.2.1/\ak .i64 x_1.2.2.1/\ak .i64 x_1.2.2.2.1/\True)/\ak .i64 x.2.1/\True->True->(∀ (s:aw),s∈x.1->(fun (_:Int×Int×Int×Int×Bool)=>True,fun (x_1:Int×Int×Int×Int×Bool)=>decide (x_1.1=x.2.1)&&x_1.2.2.2.2 == x.2.2).1 s)/\(decide (ag (fun (x_1:Int×Int×Int×Int×Bool)=>decide (x_1.1=x.2.1)&&x_1.2.2.2.2 == x.2.2) 0 x.1<0)=true->(0,0,0,0,false)=(b7 x.1 x.2.1 x.2.2).1/\false=(b7 x.1 x.2.1 x.2.2).2/\True)/\(decide (ag (fun (x_1:Int×Int×Int×Int×Bool)=>decide (x_1.1=x.2.1)&&x_1.2.2.2.2 == x.2.2) 0 x.1<0)=false->0<=ag (fun (x_1:Int×Int×Int×Int×Bool)=>decide (x_1.1=x.2.1)&&x_1.2.2.2.2 == x.2.2) 0 x.1/\ag (fun (x_1:Int×Int×Int×Int×Bool)=>decide (x_1.1=x.2.1)&&x_1.2.2.2.2 == x.2.2) 0 x.1<(x.1.length:Int)/\x.1.getD (ag (fun (x_1:Int×Int×Int×Int×Bool)=>decide (x_1.1=x.2.1)&&x_1.2.2.2.2 == x.2.2) 0 x.1).toNat (0,0,0,0,false)=(b7 x.1 x.2.1 x.2.2).1/\true=(b7 x.1 x.2.1 x.2.2).2/\True)
theorem Cu:vL:=by
 unfold vL;intro ⟨l,at_,fr⟩ _ _;simp only;have hlt:=em (fun s:aw=>decide (s.1=at_)&&s.2.2.2.2 == fr) (0,0,0,0,false) l 0 (by omega);unfold b7;refine ⟨fun _ _=>trivial,fun h=>?_,fun h=>?_⟩
 ·rw [if_pos (tM h)];exact ⟨rfl,rfl,trivial⟩
 ·rw [if_neg (uZ h)];have h1:0<=ag (fun s:aw=>decide (s.1=at_)&&s.2.2.2.2 == fr) 0 l:=Int.not_lt.1 (uZ h);have h2:ag (fun s:aw=>decide (s.1=at_)&&s.2.2.2.2 == fr) 0 l<(l.length:Int):=by omega
  exact ⟨h1,h2,rfl,rfl,trivial⟩
theorem GS:Gi.ok Tryz.prog 216:=aD (ann:=cF) (ae pd (ae Mm ap)) Tryz.func216 (by kernel_rfl) Cu
theorem wI (l:List aw) (at_:Int) (fr:Bool) (h:(b7 l at_ fr).2=true):(b7 l at_ fr).1∈l/\(b7 l at_ fr).1.1=at_/\(b7 l at_ fr).1.2.2.2.2=fr:=by
 have hlt:=em (fun s:aw=>decide (s.1=at_)&&s.2.2.2.2 == fr) (0,0,0,0,false) l 0 (by omega);have his:=eo (fun s:aw=>decide (s.1=at_)&&s.2.2.2.2 == fr) (0,0,0,0,false) l 0;unfold b7 at h |-;split at h
 ·cases h
 ·rename_i hn;rw [if_neg hn];have his:=his (by omega) (by omega);rw [Su] at his;simp only [CF,QP,ST] at his;exact ⟨aI _ (by omega) (by omega),his.1,his.2⟩
theorem Bk {a:List Int}:(aT a).2=(am a).2.2:=by
 unfold aT;split
 ·rfl
 ·simp only; omega
theorem zy {a:List Int} (h:(am a).2.2=0):(aT a).1=(ac a).1/\a.length<=256/\∀ s∈(ac a).1,du a s/\af s.2=0:=by
 obtain ⟨h1,_,h3,_,_,_,h5⟩:=bp h;rw [h3] at h5;unfold aT;rw [if_neg (by omega)];exact ⟨rfl,h1,h5⟩
def iW (a:List Int) (at_:Int) (h:dY):List Int×Int :=
 if af h≠0 then ([],af h) else if h.2.2.2=true then ([],3) else if (am a).2.2≠0 then ([],(am a).2.2)
 else if (b7 (ac a).1 at_ true).2=false then ([],5) else if aa (b7 (ac a).1 at_ true).1.2<aa h then ([],7)
 else (aV ((eT a at_ (aa (b7 (ac a).1 at_ true).1.2) 0 (aa (b7 (ac a).1 at_ true).1.2)).set at_.toNat (aC h)) (at_+aa h) (aa (b7 (ac a).1 at_ true).1.2 - aa h),0)
def Ge:Spec:={ Ts:=[.arr bi,ty_I,ia],Rs:=[.dat (.arr bi),.dat ty_I],al:=true,pre:=fun _=>True,F:=fun ((a,at_,h):List Int×Int×dY)=>iW a at_ h }
def vH:Prop :=
  ∀ (x:List Int×Int×Int×Int×Int×Bool),(fun (v1:type_of% (iW x.1 x.2.1 x.2.2))=>(fun (v0:type_of% (b7 (aT x.1).1 x.2.1 true))=>(x.1.length * 8<=aK/\∀ (x_1:Int),x_1∈x.1->ak .u64 x_1)/\ak .i64 x.2.1/\ak .i64 x.2.2.1/\ak .i64 x.2.2.2.1/\ak .i64 x.2.2.2.2.1/\True->True->True/\(decide (af x.2.2≠0)=true->([]:List Int)=v1.1/\af x.2.2=v1.2/\True)/\(decide (af x.2.2≠0)=false->(x.2.2.2.2.2=true->([]:List Int)=v1.1/\3=v1.2/\True)/\(x.2.2.2.2.2=false->True/\(decide ((aT x.1).2≠0)=true->([]:List Int)=v1.1/\(aT x.1).2=v1.2/\True)/\(decide ((aT x.1).2≠0)=false->True/\((!v0.2)=true->([]:List Int)=v1.1/\5=v1.2/\True)/\((!v0.2)=false->True/\True/\(decide ((if af v0.1.2=0 then aa v0.1.2 else (0:Int))<if af x.2.2=0 then aa x.2.2 else (0:Int))=true->([]:List Int)=v1.1/\7=v1.2/\True)/\(decide ((if af v0.1.2=0 then aa v0.1.2 else (0:Int))<if af x.2.2=0 then aa x.2.2 else (0:Int))=false->True/\True/\0<=x.2.1/\x.2.1<(↑(iB x.1 x.2.1 (if af v0.1.2=0 then aa v0.1.2 else (0:Int)) 0).1.length:Int)/\x.2.1.toNat<(iB x.1 x.2.1 (if af v0.1.2=0 then aa v0.1.2 else (0:Int)) 0).1.length/\True/\ak .i64 (x.2.1+if af x.2.2=0 then aa x.2.2 else (0:Int))/\True/\True/\ak .i64 ((if af v0.1.2=0 then aa v0.1.2 else (0:Int)) - if af x.2.2=0 then aa x.2.2 else (0:Int))/\iF ((iB x.1 x.2.1 (if af v0.1.2=0 then aa v0.1.2 else (0:Int)) 0).1.set x.2.1.toNat (if af x.2.2=0 then aC x.2.2 else (0:Int))) (x.2.1+if af x.2.2=0 then aa x.2.2 else (0:Int)) ((if af v0.1.2=0 then aa v0.1.2 else (0:Int)) - if af x.2.2=0 then aa x.2.2 else (0:Int))/\aV ((iB x.1 x.2.1 (if af v0.1.2=0 then aa v0.1.2 else (0:Int)) 0).1.set x.2.1.toNat (if af x.2.2=0 then aC x.2.2 else (0:Int))) (x.2.1+if af x.2.2=0 then aa x.2.2 else (0:Int)) ((if af v0.1.2=0 then aa v0.1.2 else (0:Int)) - if af x.2.2=0 then aa x.2.2 else (0:Int))=v1.1/\0=v1.2/\True)))))) (b7 (aT x.1).1 x.2.1 true)) (iW x.1 x.2.1 x.2.2)
theorem Cp:vH:=by
 unfold vH;intro ⟨a,at_,h⟩ _ _
 have hF:iW a at_ h=if af h≠0 then ([],af h) else if h.2.2.2=true then ([],3) else if (am a).2.2≠0 then ([],(am a).2.2)
  else if (b7 (ac a).1 at_ true).2=false then ([],5) else if aa (b7 (ac a).1 at_ true).1.2<aa h then ([],7)
  else (aV ((eT a at_ (aa (b7 (ac a).1 at_ true).1.2) 0 (aa (b7 (ac a).1 at_ true).1.2)).set at_.toNat (aC h)) (at_+aa h) (aa (b7 (ac a).1 at_ true).1.2 - aa h),0):=rfl
 simp only;rw [Bk];refine ⟨trivial,fun hc=>?_,fun hc=>⟨fun h2=>?_,fun h2=>⟨trivial,fun h3=>?_,fun h3=>?_⟩⟩⟩
 ·have hc:af h≠0:=by simpa using hc
  rw [hF,if_pos hc];exact ⟨rfl,rfl,trivial⟩
 ·have hc:af h=0:=by simpa using hc
  rw [hF,if_neg (by omega),if_pos h2];exact ⟨rfl,rfl,trivial⟩
 ·have hc:af h=0:=by simpa using hc
  have h3:(am a).2.2≠0:=by simpa using h3
  rw [hF,if_neg (by omega),if_neg (by rw [h2]; simp),if_pos h3];exact ⟨rfl,rfl,trivial⟩
 have hc:af h=0:=by simpa using hc
 have h3:(am a).2.2=0:=by simpa using h3
 obtain ⟨e1,hal,hsp⟩:=zy h3;have hfi:=wI (ac a).1 at_ true;rw [if_neg (by omega),if_neg (by rw [h2]; simp),if_neg (by omega)] at hF;rw [e1,hF];refine ⟨trivial,fun h4=>?_,fun h4=>⟨trivial,trivial,fun h5=>?_,fun h5=>?_⟩⟩
 ·have h4:(b7 (ac a).1 at_ true).2=false:=by simpa using h4
  rw [if_pos h4];exact ⟨rfl,rfl,trivial⟩
 ·have h4:(b7 (ac a).1 at_ true).2=true:=by simpa using h4
  obtain ⟨q1,q2,q3⟩:=hfi h4;have hh:=(hsp _ q1).2;rw [if_pos hh,if_pos hc] at h5;have hn4:¬ (b7 (ac a).1 at_ true).2=false:=by rw [h4]; simp
  rw [if_neg hn4,if_pos (tM h5)];exact ⟨rfl,rfl,trivial⟩
 ·have h4:(b7 (ac a).1 at_ true).2=true:=by simpa using h4
  obtain ⟨q1,q2,q3⟩:=hfi h4;obtain ⟨hin,hh⟩:=hsp _ q1;rw [if_pos hh,if_pos hc] at h5;have h5:=uZ h5;have hn4:¬ (b7 (ac a).1 at_ true).2=false:=by rw [h4]; simp
  rw [if_neg hn4,if_neg h5];have hz:=a7 hc;have hn:aa h=1+h.1+h.2.1:=rfl;have hL:aa (b7 (ac a).1 at_ true).1.2=1+(b7 (ac a).1 at_ true).1.2.1+(b7 (ac a).1 at_ true).1.2.2.1:=rfl;unfold du at hin;rw [if_pos hh,if_pos hc,if_pos hc];rw [q2] at hin;generalize aa (b7 (ac a).1 at_ true).1.2=L at *;have hp:iF a at_ L:=⟨by omega,by omega,by omega,hal⟩;have hl:=gc a at_ L 0 L (by omega) (by omega) (by omega) (by omega);rw [wJ hp];simp only [ak];exact ⟨trivial,trivial,by omega,by omega,by omega,trivial,by omega,trivial,trivial,by omega,⟨by omega,by omega,by rw [R4]; omega,by rw [R4]; omega⟩,trivial,trivial,trivial⟩
theorem GQ:Ge.ok Tryz.prog 157:=aD (ann:=cF) (ae jc (ae nj (ae GS (ae vV (ae ni (ae N4 ap)))))) Tryz.func157 (by kernel_rfl) Cp
end
section
end
section
theorem KN (out:List db) (k a b:Int):mM (out++[(k,a)]) b=out++[(k,a+b)]:=by
 unfold mM;simp
def jq (at_:Int):Int->List aw->Int
 | r,[]=>r
 | r,s::l=>jq at_ (if s.1=at_/\s.2.2.2.2=true then aa s.2 else r) l
theorem vj (at_:Int):∀ (l:List aw) (r:Int),(∀ s∈l,s.1≠at_)->jq at_ r l=r
 | [],_,_=>rfl
 | s::l,r,h=>by
  simp only [jq];rw [if_neg (fun e=>h s (by simp) e.1)];exact vj at_ l r (fun t ht=>h t (by simp [ht]))
theorem Dt (at_:Int):∀ (l:List aw) (r:Int),(∀ s∈l,¬ (s.1=at_/\s.2.2.2.2=true))->jq at_ r l=r
 | [],_,_=>rfl
 | s::l,r,h=>by
  simp only [jq];rw [if_neg (h s (by simp))];exact Dt at_ l r (fun t ht=>h t (by simp [ht]))
theorem vh {at_:Int}:∀ (l:List aw) (r:Int) (s:aw),l.Pairwise (fun s t=>s.1<t.1)->s∈l->s.1=at_->s.2.2.2.2=true->jq at_ r l=aa s.2
 | t::l,r,s,hs,hm,h1,h2=>by
  obtain ⟨p1,p2⟩:=Q9.1 hs;simp only [jq];rcases Qs.1 hm with rfl | hm
  ·rw [if_pos ⟨h1,h2⟩];exact vj at_ l _ (fun u hu e=>by have:=p1 u hu; omega)
  ·exact vh l _ s p2 hm h1 h2
theorem ED {l:List aw} {at_:Int} {fr:Bool} (h:(b7 l at_ fr).2=false):∀ s∈l,¬ (s.1=at_/\s.2.2.2.2=fr):=by
 intro s hs ⟨h1,h2⟩;have ha:=ep (fun s:aw=>decide (s.1=at_)&&s.2.2.2.2 == fr) l 0 (by omega);have:(l.any fun s:aw=>decide (s.1=at_)&&s.2.2.2.2 == fr)=true:=RI.2 ⟨s,hs,by simp [h1,h2]⟩;rw [this] at ha;have ha:=tM ha;unfold b7 at h;rw [if_neg (by omega)] at h;cases h
theorem Bj {l:List aw} (hs:l.Pairwise (fun s t=>s.1<t.1)) (at_:Int):(b9 at_ l).2=(b7 l at_ false).2/\((b7 l at_ false).2=true->(b9 at_ l).1=(b7 l at_ false).1.2):=by
 cases h:(b7 l at_ false).2
 ·rcases gF at_ l with e | ⟨s,h1,h2,h3,_⟩
  ·rw [e]; exact ⟨rfl,fun h=>by cases h⟩
  ·exact absurd ⟨h2,h3⟩ (ED h s h1)
 ·obtain ⟨q1,q2,q3⟩:=wI l at_ false h;have:=pn hs q1 q3;rw [q2] at this;rw [this];exact ⟨rfl,fun _=>rfl⟩
theorem KA {b:List Int} {at_ n v k:Int} {i:Nat} (x:Int) (h:i<at_.toNat) (hl:at_.toNat<=b.length):eT (b.set i x) at_ n v k=(eT b at_ n v k).set i x:=by
 unfold eT mJ;rw [List.take_set,List.drop_set,if_pos (by omega),List.set_append,if_pos (by rw [QD]; omega)]
theorem rg {b:List Int} {at_ n:Int} {i:Nat} (x:Int) (h:i<at_.toNat) (hl:at_.toNat<=b.length):aV (b.set i x) at_ n=(aV b at_ n).set i x:=by
 unfold aV;split
 ·rw [KA x h hl,List.set_comm _ _ (by omega)]
 ·rfl
theorem KB {b:List Int} {at_ n:Int} {i:Nat} (h:at_.toNat<=i) (h2:i<at_.toNat+n.toNat) (hl:at_.toNat+n.toNat<=b.length):(eT b at_ n 0 n).getD i 0=0:=by
 unfold eT mJ;have e:(List.take at_.toNat b).length=at_.toNat:=by rw [QD]; omega
 rw [List.getD_eq_getElem?_getD,List.getElem?_append_right (by omega),e,List.getElem?_append_left (by simp; omega)];rw [QG (by simp),List.getElem?_replicate];split <;> rfl
theorem BK {b:List Int} {at_ n:Int} {i:Nat} (h:i<at_.toNat) (hl:at_.toNat<=b.length):(aV b at_ n).getD i 0=b.getD i 0:=by
 unfold aV;split
 ·unfold eT mJ;rw [List.getD_eq_getElem?_getD,List.getElem?_set_ne (by omega),List.getElem?_append_left (by rw [QD]; omega),List.getElem?_take,if_pos h];rfl
 ·rfl
theorem FP {a:List Int} {at_ L n:Int} (hp:iF a at_ L) (h1:1<=n) (h2:n<=L) (hw:Int) :
  (aV (aV a at_ L) (at_+n) (L - n)).set at_.toNat hw=aV ((eT a at_ L 0 L).set at_.toNat hw) (at_+n) (L - n) /\
  ∀ j,1<=j->j<n->((aV (aV a at_ L) (at_+n) (L - n)).set at_.toNat hw).getD (at_+j).toNat 0=0:=by
 obtain ⟨p1,p2,p3,p4⟩:=hp;have hl:=gc a at_ L 0 L p1 p3 p2 (by omega);have hE:aV a at_ L=(eT a at_ L 0 L).set at_.toNat (aC (0,L - 1,0,true)):=by unfold aV; rw [if_pos (by omega)]
 rw [hE,rg _ (by omega) (by omega),rg _ (by omega) (by omega),List.set_set];refine ⟨rfl,fun j h3 h4=>?_⟩;rw [List.getD_eq_getElem?_getD,List.getElem?_set_ne (by omega),<- List.getD_eq_getElem?_getD,BK (by omega) (by omega)];exact KB (by omega) (by omega) (by omega)
def ue (h:dY):Int:=if af h=0/\h.2.2.2=true then 3 else af h
def fY (e r n:Int):Int:=if e≠0 then e else if r=0 then 5 else if r<n then 7 else 0
theorem FQ {a:List Int} (hz:(am a).2.2=0) (at_:Int) (h:dY) :
  iW a at_ h=(if fY (ue h) (jq at_ 0 (ac a).1) (aa h)≠0 then [] else aV ((eT a at_ (jq at_ 0 (ac a).1) 0 (jq at_ 0 (ac a).1)).set at_.toNat (aC h)) (at_+aa h) (jq at_ 0 (ac a).1 - aa h),fY (ue h) (jq at_ 0 (ac a).1) (aa h)) /\
  (fY (ue h) (jq at_ 0 (ac a).1) (aa h)=0->iF a at_ (jq at_ 0 (ac a).1)/\1<=aa h/\aa h<=jq at_ 0 (ac a).1/\af h=0):=by
 obtain ⟨_,hal,hsp⟩:=zy hz
 have hF:iW a at_ h=if af h≠0 then ([],af h) else if h.2.2.2=true then ([],3) else if (am a).2.2≠0 then ([],(am a).2.2)
  else if (b7 (ac a).1 at_ true).2=false then ([],5) else if aa (b7 (ac a).1 at_ true).1.2<aa h then ([],7)
  else (aV ((eT a at_ (aa (b7 (ac a).1 at_ true).1.2) 0 (aa (b7 (ac a).1 at_ true).1.2)).set at_.toNat (aC h)) (at_+aa h) (aa (b7 (ac a).1 at_ true).1.2 - aa h),0):=rfl
 rw [hF];by_cases h1:af h=0
 ·rw [if_neg (by omega)];have hz1:=a7 h1;have hn:aa h=1+h.1+h.2.1:=rfl;cases h2:h.2.2.2
  ·have e0:ue h=0:=by unfold ue; rw [h2,if_neg (by simp),h1]
   rw [e0,if_neg (by simp),if_neg (by omega)];cases h3:(b7 (ac a).1 at_ true).2
   ·rw [Dt at_ _ 0 (ED h3),if_pos rfl];have e1:fY 0 0 (aa h)=5:=rfl;rw [e1,if_pos (by omega)];exact ⟨rfl,fun h=>by omega⟩
   ·obtain ⟨q1,q2,q3⟩:=wI (ac a).1 at_ true h3;rw [vh _ 0 _ (ca a) q1 q2 q3,if_neg (by simp)];obtain ⟨hin,hh⟩:=hsp _ q1;have hz2:=a7 hh;have hL:aa (b7 (ac a).1 at_ true).1.2=1+(b7 (ac a).1 at_ true).1.2.1+(b7 (ac a).1 at_ true).1.2.2.1:=rfl;unfold du at hin;rw [q2] at hin;generalize aa (b7 (ac a).1 at_ true).1.2=L at *;by_cases h4:L<aa h
    ·have e1:fY 0 L (aa h)=7:=by unfold fY; rw [if_neg (by omega),if_neg (by omega),if_pos h4]
     rw [e1,if_pos h4,if_pos (by omega)];exact ⟨rfl,fun h=>by omega⟩
    ·have e1:fY 0 L (aa h)=0:=by unfold fY; rw [if_neg (by omega),if_neg (by omega),if_neg h4]
     rw [e1,if_neg h4,if_neg (by omega)];exact ⟨rfl,fun _=>⟨⟨by omega,by omega,by omega,hal⟩,by omega,by omega,h1⟩⟩
  ·have e0:ue h=3:=by unfold ue; rw [h2,if_pos ⟨h1,rfl⟩]
   rw [e0,if_pos rfl];have e1:∀ r,fY 3 r (aa h)=3:=fun _=>rfl
   rw [e1,if_pos (by omega)];exact ⟨rfl,fun h=>by omega⟩
 ·have e0:ue h=af h:=by unfold ue; rw [if_neg (fun e=>h1 e.1)]
  have e1:∀ r,fY (af h) r (aa h)=af h:=fun _=>by unfold fY; rw [if_pos h1]
  rw [e0,if_pos h1,e1,if_pos h1];exact ⟨rfl,fun h=>absurd h h1⟩
end
section
def dw (l:List aw) (at_:Int):Int:=aa (b9 at_ l).1
def aU (a keep pinned:List Int):List Int×Int :=
 if (am a).2.2≠0 then ([],(am a).2.2) else if (bk keep&&bk pinned)=false then ([],3)
 else if (keep.all (isB (ac a).1))=false then ([],5) else if (pinned.all (fR keep))=false then ([],5) else (keep.map (dw (ac a).1),0)
theorem MB {l:List aw} (hs:l.Pairwise (fun s t=>s.1<t.1)) (at_:Int) :
  (ag (fun s:aw=>decide (s.1=at_)&&!s.2.2.2.2) 0 l<0->isB l at_=false) /\
  (¬ ag (fun s:aw=>decide (s.1=at_)&&!s.2.2.2.2) 0 l<0->isB l at_=true/\ag (fun s:aw=>decide (s.1=at_)&&!s.2.2.2.2) 0 l<(l.length:Int) /\
   (l.getD (ag (fun s:aw=>decide (s.1=at_)&&!s.2.2.2.2) 0 l).toNat (0,0,0,0,false)).2=(b9 at_ l).1/\l.getD (ag (fun s:aw=>decide (s.1=at_)&&!s.2.2.2.2) 0 l).toNat (0,0,0,0,false)∈l):=by
 have hf:(fun s:aw=>decide (s.1=at_)&&!s.2.2.2.2)=(fun s:aw=>decide (s.1=at_)&&s.2.2.2.2 == false):=by
  funext s;cases s.2.2.2.2 <;> rfl
 obtain ⟨k1,k2⟩:=Bj hs at_;have hlt:=em (fun s:aw=>decide (s.1=at_)&&s.2.2.2.2 == false) (0,0,0,0,false) l 0 (by omega);rw [hf];unfold isB;refine ⟨fun h=>?_,fun h=>?_⟩
 ·rw [k1];unfold b7;rw [if_pos h]
 ·have e:b7 l at_ false=(l.getD (ag (fun s:aw=>decide (s.1=at_)&&s.2.2.2.2 == false) 0 l).toNat (0,0,0,0,false),true):=by
   unfold b7;rw [if_neg h]
  have k3:=k2 (by rw [e]);rw [k1,k3,e];exact ⟨rfl,by omega,rfl,aI _ (by omega) (by omega)⟩
def Jt:Spec:={ Ts:=[cM,.ref ty_I],Rs:=[.dat .bool],pre:=fun _=>True,F:=fun ((s,at_):aw×Int)=>decide (s.1=at_)&&!s.2.2.2.2 }
def yU:Prop :=
  ∀ (x:(Int×Int×Int×Int×Bool)×Int),(ak .i64 x.1.1/\ak .i64 x.1.2.1/\ak .i64 x.1.2.2.1/\ak .i64 x.1.2.2.2.1/\True)/\ak .i64 x.2->True->(decide (x.1.1=x.2)&&!x.1.2.2.2.2)=(decide (x.1.1=x.2)&&!x.1.2.2.2.2)/\True
theorem FF:yU:=by
 unfold yU;intro ⟨s,at_⟩ _ _;simp
theorem J4:Jt.ok Tryz.prog 289:=aD (ann:=cF) ap Tryz.func289 (by kernel_rfl) FF
def Ga:Spec:={ Ts:=[ty_I,.ref (.arr ty_I)],Rs:=[.dat .bool],pre:=fun _=>True,F:=fun ((at_,keep):Int×List Int)=>!fR keep at_ }
def vD:Prop :=
  ∀ (x:Int×List Int),(ak .i64 x.1/\x.2.length * 8<=aK/\∀ (x_1:Int),x_1∈x.2->ak .i64 x_1)->True->True/\(!fR x.2 x.1)=!fR x.2 x.1/\True
theorem Cl:vD:=by
 unfold vD;intro _ _ _;exact ⟨trivial,rfl,trivial⟩
theorem GN:Ga.ok Tryz.prog 290:=aD (ann:=cF) (ae A7 ap) Tryz.func290 (by kernel_rfl) Cl
def Nm:Nat->Option LoopGen
 | 9=>some { rd:=[.own 9 202 cM,.dat 35 (.arr ty_I)],A:=fun ((l,keep):List aw×List Int)=>{ cs:=[.own 11 3 ty_I,.dat 37 ty_I],inv:=fun ((out,i):List Int×Int)=>0<=i/\i<=keep.length/\(keep.drop i.toNat).all (isB l)=keep.all (isB l)/\out=(keep.take i.toNat).map (dw l),mu:=fun ((_,i):List Int×Int)=>(keep.length - i).toNat } }
 | _=>none
def LC:Spec:={ Ts:=[.arr bi,.arr ty_I,.arr ty_I],Rs:=[.own 3 ty_I,.dat ty_I],pre:=fun _=>True,F:=fun ((a,keep,pinned):List Int×List Int×List Int)=>aU a keep pinned }
def DM:Prop :=
  ∀ (x:List Int×List Int×List Int),((x.1.length * 8<=aK/\∀ (x_1:Int),x_1∈x.1->ak .u64 x_1)/\(x.2.1.length * 8<=aK/\∀ (x_1:Int),x_1∈x.2.1->ak .i64 x_1)/\x.2.2.length * 8<=aK/\∀ (x_1:Int),x_1∈x.2.2->ak .i64 x_1)->True->True/\(decide ((am x.1).2.2≠0)=true->([]:List Int)=(aU x.1 x.2.1 x.2.2).1/\(am x.1).2.2=(aU x.1 x.2.1 x.2.2).2/\True)/\(decide ((am x.1).2.2≠0)=false->True/\((!bk x.2.1)=false->True)/\((!bk x.2.1||!bk x.2.2)=true->([]:List Int)=(aU x.1 x.2.1 x.2.2).1/\3=(aU x.1 x.2.1 x.2.2).2/\True)/\((!bk x.2.1||!bk x.2.2)=false->True/\((0:Int)<=0/\0<=(x.2.1.length:Int)/\(List.drop (Int.toNat 0) x.2.1).all (isB (ac x.1).1)=x.2.1.all (isB (ac x.1).1)/\([]:List Int)=List.map (dw (ac x.1).1) (List.take (Int.toNat 0) x.2.1))/\∀ (x_1:List Int×Int),0<=x_1.2/\x_1.2<=(x.2.1.length:Int)/\(List.drop x_1.2.toNat x.2.1).all (isB (ac x.1).1)=x.2.1.all (isB (ac x.1).1)/\x_1.1=List.map (dw (ac x.1).1) (List.take x_1.2.toNat x.2.1)->(decide (x_1.2<(x.2.1.length:Int))=true->0<=x_1.2/\x_1.2<(x.2.1.length:Int)/\(∀ (s:aw),s∈(ac x.1).1->(fun (_:Int×Int×Int×Int×Bool)=>True,fun (x_2:Int×Int×Int×Int×Bool)=>decide (x_2.1=x.2.1.getD x_1.2.toNat 0)&&!x_2.2.2.2.2).1 s)/\(decide (ag (fun (x_2:Int×Int×Int×Int×Bool)=>decide (x_2.1=x.2.1.getD x_1.2.toNat 0)&&!x_2.2.2.2.2) 0 (ac x.1).1<0)=true->([]:List Int)=(aU x.1 x.2.1 x.2.2).1/\5=(aU x.1 x.2.1 x.2.2).2/\True)/\(decide (ag (fun (x_2:Int×Int×Int×Int×Bool)=>decide (x_2.1=x.2.1.getD x_1.2.toNat 0)&&!x_2.2.2.2.2) 0 (ac x.1).1<0)=false->0<=ag (fun (x_2:Int×Int×Int×Int×Bool)=>decide (x_2.1=x.2.1.getD x_1.2.toNat 0)&&!x_2.2.2.2.2) 0 (ac x.1).1/\ag (fun (x_2:Int×Int×Int×Int×Bool)=>decide (x_2.1=x.2.1.getD x_1.2.toNat 0)&&!x_2.2.2.2.2) 0 (ac x.1).1<(↑(ac x.1).1.length:Int)/\(ag (fun (x_2:Int×Int×Int×Int×Bool)=>decide (x_2.1=x.2.1.getD x_1.2.toNat 0)&&!x_2.2.2.2.2) 0 (ac x.1).1).toNat<(ac x.1).1.length/\True/\(x_1.1.length+[if af ((ac x.1).1.getD (ag (fun (x_2:Int×Int×Int×Int×Bool)=>decide (x_2.1=x.2.1.getD x_1.2.toNat 0)&&!x_2.2.2.2.2) 0 (ac x.1).1).toNat (0,0,0,0,false)).2=0 then aa ((ac x.1).1.getD (ag (fun (x_2:Int×Int×Int×Int×Bool)=>decide (x_2.1=x.2.1.getD x_1.2.toNat 0)&&!x_2.2.2.2.2) 0 (ac x.1).1).toNat (0,0,0,0,false)).2 else (0:Int)].length) * 8<=aK/\ak .i64 (x_1.2+1)/\(0<=x_1.2+1/\x_1.2+1<=(x.2.1.length:Int)/\(List.drop (x_1.2+1).toNat x.2.1).all (isB (ac x.1).1)=x.2.1.all (isB (ac x.1).1)/\x_1.1++[if af ((ac x.1).1.getD (ag (fun (x_2:Int×Int×Int×Int×Bool)=>decide (x_2.1=x.2.1.getD x_1.2.toNat 0)&&!x_2.2.2.2.2) 0 (ac x.1).1).toNat (0,0,0,0,false)).2=0 then aa ((ac x.1).1.getD (ag (fun (x_2:Int×Int×Int×Int×Bool)=>decide (x_2.1=x.2.1.getD x_1.2.toNat 0)&&!x_2.2.2.2.2) 0 (ac x.1).1).toNat (0,0,0,0,false)).2 else (0:Int)]=List.map (dw (ac x.1).1) (List.take (x_1.2+1).toNat x.2.1))/\((x.2.1.length:Int) - (x_1.2+1)).toNat<((x.2.1.length:Int) - x_1.2).toNat))/\(decide (x_1.2<(x.2.1.length:Int))=false->(∀ (s:Int),s∈x.2.2->(fun (_:Int)=>True,fun (x_2:Int)=>!fR x.2.1 x_2).1 s)/\((x.2.2.any fun (x_2:Int)=>!fR x.2.1 x_2)=true->([]:List Int)=(aU x.1 x.2.1 x.2.2).1/\5=(aU x.1 x.2.1 x.2.2).2/\True)/\((x.2.2.any fun (x_2:Int)=>!fR x.2.1 x_2)=false->x_1.1=(aU x.1 x.2.1 x.2.2).1/\0=(aU x.1 x.2.1 x.2.2).2/\True))))
theorem I0:DM:=by
 unfold DM;intro ⟨a,keep,pinned⟩ ⟨_,⟨hb,_⟩,_⟩ _;unfold aK at hb;simp only at hb |-
 have hF:aU a keep pinned=if (am a).2.2≠0 then ([],(am a).2.2) else if (bk keep&&bk pinned)=false then ([],3)
  else if (keep.all (isB (ac a).1))=false then ([],5) else if (pinned.all (fR keep))=false then ([],5) else (keep.map (dw (ac a).1),0):=rfl
 rw [hF];refine ⟨trivial,fun hc=>?_,fun hc=>⟨trivial,fun _=>trivial,fun hr=>?_,fun hr=>⟨trivial,⟨by omega,by omega,rfl,rfl⟩,fun ⟨out,i⟩ ⟨h0,h1,h2,h3⟩=>⟨fun hlt=>?_,fun hge=>?_⟩⟩⟩⟩
 ·rw [if_pos (tM hc)];exact ⟨rfl,rfl,trivial⟩
 ·rw [if_neg (uZ hc),if_pos (by revert hr; cases bk keep <;> cases bk pinned <;> simp)];exact ⟨rfl,rfl,trivial⟩
 ·have hlt:i<(keep.length:Int):=tM hlt;simp only at h0 h1 h2 h3 |-;rw [if_neg (uZ hc),if_neg (by revert hr; cases bk keep <;> cases bk pinned <;> simp)];rw [bI (0:Int) h0 hlt,Rt] at h2;have hts:=a8 (0:Int) h0 hlt;obtain ⟨f1,f2⟩:=MB (ca a) (keep.getD i.toNat 0);rw [hts];generalize keep.getD i.toNat 0=at_ at *;refine ⟨h0,hlt,fun _ _=>trivial,fun hn=>?_,fun hn=>?_⟩
  ·rw [f1 (tM hn),SA] at h2;rw [if_pos h2.symm];exact ⟨rfl,rfl,trivial⟩
  ·obtain ⟨g1,g2,g3,g4⟩:=f2 (uZ hn);have hn:¬ ag (fun s:aw=>decide (s.1=at_)&&!s.2.2.2.2) 0 (ac a).1<0:=uZ hn;rw [g1,RN] at h2;have hh:=(fb a _ g4).2.2;rw [g3] at hh |-;rw [if_pos hh];have hl:out.length=i.toNat:=by rw [h3,Q3,QD]; omega
   unfold aK;simp only [ak,HN,QQ];refine ⟨Int.not_lt.1 hn,g2,(Int.toNat_lt (Int.not_lt.1 hn)).2 g2,trivial,by omega,by omega,⟨by omega,by omega,h2,?_⟩,by omega⟩;rw [Rg,<- h3];rfl
 ·have hge:¬ i<(keep.length:Int):=uZ hge;simp only at h2 h3 |-;rw [cE hge,Tb] at h2;rw [bT hge] at h3;rw [if_neg (uZ hc),if_neg (by revert hr; cases bk keep <;> cases bk pinned <;> simp),if_neg (by rw [<- h2]; simp)];have e:(pinned.any fun at_=>!fR keep at_)=!(pinned.all (fR keep)):=by rw [List.not_all_eq_any_not]
  refine ⟨fun _ _=>trivial,fun hp=>?_,fun hp=>?_⟩
  ·rw [e] at hp;rw [if_pos (by simpa using hp)];exact ⟨rfl,rfl,trivial⟩
  ·rw [e] at hp;rw [if_neg (by simpa using hp)];exact ⟨h3,rfl,trivial⟩
theorem D3:LC.ok Tryz.prog 270:=aD (ann:=Nm) (ae jA (ae Me (ae jz (ae pd (ae J4 (ae jB (ae A9 (ae GN ap)))))))) Tryz.func270 (by kernel_rfl) I0
def bx (pinned keep long:List Int):Nat->Int
 | 0=>0
 | i+1=>(if fR pinned (keep.getD i 0)=true then keep.getD i 0 else bx pinned keep long i)+long.getD i 0
def fD (pinned keep long:List Int) (i:Nat):Int:=if fR pinned (keep.getD i 0)=true then keep.getD i 0 else bx pinned keep long i
def aA (keep long pinned:List Int):List Int:=(List.range keep.length).map (fD pinned keep long)
def jy (keep long:List Int):Prop:=long.length=keep.length/\keep.length<=256/\(∀ x∈keep,0<=x/\x<=255)/\∀ n∈long,1<=n/\n<=256
theorem cq {keep long:List Int} (pinned:List Int) (h:jy keep long):∀ i:Nat,i<=keep.length->0<=bx pinned keep long i/\bx pinned keep long i<=512 * i
 | 0,_=>by simp [bx]
 | i+1,hi=>by
  have ih:=cq pinned h i (by omega);obtain ⟨h1,h2,h3,h4⟩:=h;have k1:=h3 _ (aI (0:Int) (xs:=keep) (i:=i) (by omega) (by omega));have k2:=h4 _ (aI (0:Int) (xs:=long) (i:=i) (by omega) (by omega));simp only [Q5] at k1 k2;simp only [bx];split <;> omega
theorem rz {keep long:List Int} (pinned:List Int) (h:jy keep long) {i:Nat} (hi:i<keep.length):0<=fD pinned keep long i/\fD pinned keep long i<=512 * i+255:=by
 have h0:=cq pinned h i (by omega);have k1:=h.2.2.1 _ (aI (0:Int) (xs:=keep) (i:=i) (by omega) (by omega));simp only [Q5] at k1;unfold fD;split <;> omega
def OH:Nat->Option LoopGen
 | 4=>some { rd:=[.dat 11 (.arr ty_I),.dat 1 (.arr ty_I),.dat 2 (.arr ty_I)],A:=fun ((keep,long,pinned):List Int×List Int×List Int)=>{ cs:=[.own 7 3 ty_I,.dat 8 ty_I,.dat 13 ty_I],inv:=fun ((out,e,i):List Int×Int×Int)=>0<=i/\i<=keep.length/\out=(List.range i.toNat).map (fD pinned keep long)/\e=bx pinned keep long i.toNat,mu:=fun ((_,_,i):List Int×Int×Int)=>(keep.length - i).toNat } }
 | _=>none
def NH:Spec:={ Ts:=[.arr ty_I,.arr ty_I,.arr ty_I],Rs:=[.own 3 ty_I],pre:=fun ((keep,long,_):List Int×List Int×List Int)=>jy keep long,F:=fun ((keep,long,pinned):List Int×List Int×List Int)=>aA keep long pinned }
def HX:Prop :=
  ∀ (x:List Int×List Int×List Int),((x.1.length * 8<=aK/\∀ (x_1:Int),x_1∈x.1->ak .i64 x_1)/\(x.2.1.length * 8<=aK/\∀ (x_1:Int),x_1∈x.2.1->ak .i64 x_1)/\x.2.2.length * 8<=aK/\∀ (x_1:Int),x_1∈x.2.2->ak .i64 x_1)->jy x.1 x.2.1->((0:Int)<=0/\0<=(x.1.length:Int)/\([]:List Int)=List.map (fD x.2.2 x.1 x.2.1) (List.range (Int.toNat 0))/\0=bx x.2.2 x.1 x.2.1 (Int.toNat 0))/\∀ (x_1:List Int×Int×Int),0<=x_1.2.2/\x_1.2.2<=(x.1.length:Int)/\x_1.1=List.map (fD x.2.2 x.1 x.2.1) (List.range x_1.2.2.toNat)/\x_1.2.1=bx x.2.2 x.1 x.2.1 x_1.2.2.toNat->(decide (x_1.2.2<(x.1.length:Int))=true->0<=x_1.2.2/\x_1.2.2<(x.1.length:Int)/\True/\((!fR x.2.2 (x.1.getD x_1.2.2.toNat 0))=true->(x_1.1.length+[x_1.2.1].length) * 8<=aK/\0<=x_1.2.2/\x_1.2.2<(x.2.1.length:Int)/\ak .i64 (x_1.2.1+x.2.1.getD x_1.2.2.toNat 0)/\ak .i64 (x_1.2.2+1)/\(0<=x_1.2.2+1/\x_1.2.2+1<=(x.1.length:Int)/\x_1.1++[x_1.2.1]=List.map (fD x.2.2 x.1 x.2.1) (List.range (x_1.2.2+1).toNat)/\x_1.2.1+x.2.1.getD x_1.2.2.toNat 0=bx x.2.2 x.1 x.2.1 (x_1.2.2+1).toNat)/\((x.1.length:Int) - (x_1.2.2+1)).toNat<((x.1.length:Int) - x_1.2.2).toNat)/\((!fR x.2.2 (x.1.getD x_1.2.2.toNat 0))=false->(x_1.1.length+[x.1.getD x_1.2.2.toNat 0].length) * 8<=aK/\0<=x_1.2.2/\x_1.2.2<(x.2.1.length:Int)/\ak .i64 (x.1.getD x_1.2.2.toNat 0+x.2.1.getD x_1.2.2.toNat 0)/\ak .i64 (x_1.2.2+1)/\(0<=x_1.2.2+1/\x_1.2.2+1<=(x.1.length:Int)/\x_1.1++[x.1.getD x_1.2.2.toNat 0]=List.map (fD x.2.2 x.1 x.2.1) (List.range (x_1.2.2+1).toNat)/\x.1.getD x_1.2.2.toNat 0+x.2.1.getD x_1.2.2.toNat 0=bx x.2.2 x.1 x.2.1 (x_1.2.2+1).toNat)/\((x.1.length:Int) - (x_1.2.2+1)).toNat<((x.1.length:Int) - x_1.2.2).toNat))/\(decide (x_1.2.2<(x.1.length:Int))=false->x_1.1=aA x.1 x.2.1 x.2.2/\True)
theorem K3:HX:=by
 unfold HX;intro ⟨keep,long,pinned⟩ _ hp;have hp':=hp;obtain ⟨p1,p2,p3,p4⟩:=hp';simp only at p1 p2 p3 p4 hp |-;refine ⟨⟨by omega,by omega,rfl,rfl⟩,fun ⟨out,e,i⟩ ⟨h0,h1,h2,h3⟩=>⟨fun hlt=>?_,fun hge=>?_⟩⟩
 ·have hlt':i<(keep.length:Int):=tM hlt;simp only at h0 h1 h2 h3 |-;have ht:=rz pinned hp (i:=i.toNat) (by omega);have he:=cq pinned hp (i.toNat+1) (by omega);have k1:=p3 _ (aI (0:Int) h0 hlt');have k2:=p4 _ (aI (0:Int) (xs:=long) h0 (by omega))
  have hs:out++[fD pinned keep long i.toNat]=(List.range (i+1).toNat).map (fD pinned keep long):=by
   rw [show (i+1).toNat=i.toNat+1 by omega,List.range_succ,Rg,<- h2];rfl
  have hE:bx pinned keep long (i+1).toNat=fD pinned keep long i.toNat+long.getD i.toNat 0:=by
   rw [show (i+1).toNat=i.toNat+1 by omega];rfl
  have hl:out.length=i.toNat:=by rw [h2]; simp
  rw [hE,<- hs];subst h3;unfold aK;simp only [ak,HN,QQ];have hT:fD pinned keep long i.toNat=if fR pinned (keep.getD i.toNat 0)=true then keep.getD i.toNat 0 else bx pinned keep long i.toNat:=rfl
  have hE':bx pinned keep long (i.toNat+1)=fD pinned keep long i.toNat+long.getD i.toNat 0:=rfl;rw [hE'] at he;refine ⟨h0,hlt',trivial,fun hc=>?_,fun hc=>?_⟩
  ·have hc:fR pinned (keep.getD i.toNat 0)=false:=by simpa using hc
   rw [if_neg (by rw [hc]; simp)] at hT;rw [hT] at he |-;exact ⟨by omega,h0,by omega,by omega,by omega,⟨by omega,by omega,rfl,rfl⟩,by omega⟩
  ·have hc:fR pinned (keep.getD i.toNat 0)=true:=by simpa using hc
   rw [if_pos hc] at hT;rw [hT] at he |-;exact ⟨by omega,h0,by omega,by omega,by omega,⟨by omega,by omega,rfl,rfl⟩,by omega⟩
 ·have hge:¬ i<(keep.length:Int):=uZ hge;simp only at h0 h1 h2;rw [h2,show i.toNat=keep.length by omega];exact ⟨rfl,trivial⟩
theorem If:NH.ok Tryz.prog 271:=aD (ann:=OH) (ae A7 ap) Tryz.func271 (by kernel_rfl) K3
def Js:Spec:={ Ts:=[.arr bi,.arr ty_I,.arr ty_I],Rs:=[.own 3 ty_I,.dat ty_I],pre:=fun _=>True,F:=fun ((a,keep,pinned):List Int×List Int×List Int)=>((if (aU a keep pinned).2≠0 then [] else aA keep (aU a keep pinned).1 pinned,(aU a keep pinned).2):List Int×Int) }
theorem gy:∀ {l:List Int},bk l=true->l.Pairwise (·<·)
 | [],_=>List.Pairwise.nil
 | [x],_=>by simp
 | x::y::l,h=>by
  simp only [bk,CF,QP] at h;have ih:=gy h.2;refine Q9.2 ⟨fun z hz=>?_,ih⟩;rcases Qs.1 hz with rfl | hz
  ·exact h.1
  ·have:=(Q9.1 ih).1 z hz;omega
theorem jl:∀ {l:List Int} {s:Int},l.Pairwise (·<·)->(∀ x∈l,s<=x/\x<=255)->s<=256->(l.length:Int)<=256 - s
 | [],s,_,_,h=>by simp; omega
 | x::l,s,hp,hr,_=>by
  obtain ⟨h1,h2⟩:=Q9.1 hp;have h3:=hr x (by simp);have ih:=jl (s:=x+1) h2 (fun y hy=>by have:=h1 y hy; have:=hr y (by simp [hy]); omega) (by omega);simp only [HN];omega
theorem wx {a:List Int} {at_:Int} (h:isB (ac a).1 at_=true):∃ s∈(ac a).1,s.1=at_/\s.2.2.2.2=false/\dw (ac a).1 at_=aa s.2:=by
 unfold isB dw at *;rcases gF at_ (ac a).1 with e | ⟨s,h1,h2,h3,e⟩
 ·rw [e] at h; cases h
 ·exact ⟨s,h1,h2,h3,by rw [e]⟩
theorem wi {a keep pinned:List Int} (h:(aU a keep pinned).2=0):(am a).2.2=0/\bk keep=true/\bk pinned=true/\(∀ x∈keep,isB (ac a).1 x=true)/\(∀ x∈pinned,fR keep x=true)/\(aU a keep pinned).1=keep.map (dw (ac a).1):=by
 unfold aU at *;by_cases h1:(am a).2.2≠0
 ·rw [if_pos h1] at h; exact absurd h h1
 rw [if_neg h1] at h |-;by_cases h2:(bk keep&&bk pinned)=false
 ·rw [if_pos h2] at h; simp at h
 rw [if_neg h2] at h |-;by_cases h3:(keep.all (isB (ac a).1))=false
 ·rw [if_pos h3] at h; simp at h
 rw [if_neg h3] at h |-;by_cases h4:(pinned.all (fR keep))=false
 ·rw [if_pos h4] at h; simp at h
 rw [if_neg h4];have h2:bk keep=true/\bk pinned=true:=by simpa using h2
 have h3:keep.all (isB (ac a).1)=true:=by simpa using h3
 have h4:pinned.all (fR keep)=true:=by simpa using h4
 exact ⟨by omega,h2.1,h2.2,fun x hx=>Qy.1 h3 x hx,fun x hx=>Qy.1 h4 x hx,rfl⟩
theorem rU {a keep pinned:List Int} (h:(aU a keep pinned).2=0):jy keep (aU a keep pinned).1:=by
 obtain ⟨_,h2,_,h4,_,h6⟩:=wi h
 have hr:∀ x∈keep,0<=x/\x<=255:=fun x hx=>by
  obtain ⟨s,h1,h2,_⟩:=wx (h4 x hx);have:=cS s h1;omega
 have hl:=jl (gy h2) hr (by omega);refine ⟨by rw [h6]; simp,by omega,hr,fun n hn=>?_⟩;rw [h6] at hn;obtain ⟨x,hx,rfl⟩:=QR.1 hn;obtain ⟨s,h1,_,_,e⟩:=wx (h4 x hx);have hz:=a7 (fb a s h1).2.2;rw [e];unfold aa;omega
def yT:Prop :=
  ∀ (x:List Int×List Int×List Int),(fun (v0:type_of% (aU x.1 x.2.1 x.2.2))=>((x.1.length * 8<=aK/\∀ (x_1:Int),x_1∈x.1->ak .u64 x_1)/\(x.2.1.length * 8<=aK/\∀ (x_1:Int),x_1∈x.2.1->ak .i64 x_1)/\x.2.2.length * 8<=aK/\∀ (x_1:Int),x_1∈x.2.2->ak .i64 x_1)->True->True/\(decide (v0.2≠0)=true->(([]:List Int)=if v0.2≠0 then ([]:List Int) else aA x.2.1 v0.1 x.2.2)/\v0.2=v0.2/\True)/\(decide (v0.2≠0)=false->jy x.2.1 v0.1/\(aA x.2.1 v0.1 x.2.2=if v0.2≠0 then ([]:List Int) else aA x.2.1 v0.1 x.2.2)/\0=v0.2/\True)) (aU x.1 x.2.1 x.2.2)
theorem FE:yT:=by
 unfold yT;intro ⟨a,keep,pinned⟩ _ _;simp only;refine ⟨trivial,fun hc=>?_,fun hc=>?_⟩
 ·rw [if_pos (tM hc)];exact ⟨rfl,trivial,trivial⟩
 ·have hz:(aU a keep pinned).2=0:=by simpa using uZ hc
  rw [if_neg (by omega)];exact ⟨rU hz,rfl,hz.symm,trivial⟩
theorem J3:Js.ok Tryz.prog 254:=aD (ann:=cF) (ae D3 (ae If ap)) Tryz.func254 (by kernel_rfl) FE
def gG (pinned keep long:List Int):Nat->List db
 | 0=>[]
 | i+1=>gG pinned keep long i++(if bx pinned keep long i<fD pinned keep long i then [(bx pinned keep long i,fD pinned keep long i - bx pinned keep long i)] else [])
theorem iR (pinned keep long:List Int):∀ i,(gG pinned keep long i).length<=i
 | 0=>by simp [gG]
 | i+1=>by
  have:=iR pinned keep long i;simp only [gG,KK];split <;> simp <;> omega
def ck (n:Int) (keep long pinned:List Int):List db:=gG pinned keep long keep.length++(if bx pinned keep long keep.length<n then [(bx pinned keep long keep.length,n - bx pinned keep long keep.length)] else [])
def gS (a keep pinned:List Int):List db×Int:=(if (aU a keep pinned).2≠0 then [] else ck a.length keep (aU a keep pinned).1 pinned,(aU a keep pinned).2)
def Fb:Nat->Option LoopGen
 | 3000272=>some cY
 | 8=>some { rd:=[.own 8 3 ty_I,.own 29 3 ty_I,.dat 1 (.arr ty_I),.dat 2 (.arr ty_I)],A:=fun ((long,to,keep,pinned):List Int×List Int×List Int×List Int)=>{ cs:=[.boxS 10 [.own 105 jW],.box 11 ty_I,.dat 31 ty_I],inv:=fun ((out,e,i):List db×Int×Int)=>0<=i/\i<=keep.length/\to=aA keep long pinned/\out=gG pinned keep long i.toNat/\e=bx pinned keep long i.toNat,mu:=fun ((_,_,i):List db×Int×Int)=>(keep.length - i).toNat } }
 | _=>none
def CV:Spec:={ Ts:=[.arr bi,.arr ty_I,.arr ty_I],Rs:=[.own 105 jW,.dat ty_I],pre:=fun _=>True,F:=fun ((a,keep,pinned):List Int×List Int×List Int)=>gS a keep pinned }
def sS:Prop :=
  ∀ (x:List Int×List Int×List Int),(fun (v1:type_of% (gS x.1 x.2.1 x.2.2))=>(fun (v0:type_of% (aU x.1 x.2.1 x.2.2))=>((x.1.length * 8<=aK/\∀ (x_1:Int),x_1∈x.1->ak .u64 x_1)/\(x.2.1.length * 8<=aK/\∀ (x_1:Int),x_1∈x.2.1->ak .i64 x_1)/\x.2.2.length * 8<=aK/\∀ (x_1:Int),x_1∈x.2.2->ak .i64 x_1)->True->True/\(decide (v0.2≠0)=true->([]:List (Int×Int))=v1.1/\v0.2=v1.2/\True)/\(decide (v0.2≠0)=false->jy x.2.1 v0.1/\((0:Int)<=0/\0<=(x.2.1.length:Int)/\aA x.2.1 v0.1 x.2.2=aA x.2.1 v0.1 x.2.2/\([]:List (Int×Int))=gG x.2.2 x.2.1 v0.1 (Int.toNat 0)/\0=bx x.2.2 x.2.1 v0.1 (Int.toNat 0))/\∀ (x_1:List (Int×Int)×Int×Int),0<=x_1.2.2/\x_1.2.2<=(x.2.1.length:Int)/\aA x.2.1 v0.1 x.2.2=aA x.2.1 v0.1 x.2.2/\x_1.1=gG x.2.2 x.2.1 v0.1 x_1.2.2.toNat/\x_1.2.1=bx x.2.2 x.2.1 v0.1 x_1.2.2.toNat->(decide (x_1.2.2<(↑(aA x.2.1 v0.1 x.2.2).length:Int))=true->0<=x_1.2.2/\x_1.2.2<(↑(aA x.2.1 v0.1 x.2.2).length:Int)/\x_1.2.2.toNat<(aA x.2.1 v0.1 x.2.2).length/\∀ (_:Array Value),(decide (x_1.2.1<(aA x.2.1 v0.1 x.2.2).getD x_1.2.2.toNat 0)=true->ak .i64 ((aA x.2.1 v0.1 x.2.2).getD x_1.2.2.toNat 0 - x_1.2.1)/\(x_1.1.length+[(x_1.2.1,(aA x.2.1 v0.1 x.2.2).getD x_1.2.2.toNat 0 - x_1.2.1)].length) * (8+8)<=aK/\0<=x_1.2.2/\x_1.2.2<(v0.1.length:Int)/\x_1.2.2.toNat<v0.1.length/\ak .i64 ((aA x.2.1 v0.1 x.2.2).getD x_1.2.2.toNat 0+v0.1.getD x_1.2.2.toNat 0)/\ak .i64 (x_1.2.2+1)/\(0<=x_1.2.2+1/\x_1.2.2+1<=(x.2.1.length:Int)/\aA x.2.1 v0.1 x.2.2=aA x.2.1 v0.1 x.2.2/\x_1.1++[(x_1.2.1,(aA x.2.1 v0.1 x.2.2).getD x_1.2.2.toNat 0 - x_1.2.1)]=gG x.2.2 x.2.1 v0.1 (x_1.2.2+1).toNat/\(aA x.2.1 v0.1 x.2.2).getD x_1.2.2.toNat 0+v0.1.getD x_1.2.2.toNat 0=bx x.2.2 x.2.1 v0.1 (x_1.2.2+1).toNat)/\((x.2.1.length:Int) - (x_1.2.2+1)).toNat<((x.2.1.length:Int) - x_1.2.2).toNat)/\(decide (x_1.2.1<(aA x.2.1 v0.1 x.2.2).getD x_1.2.2.toNat 0)=false->0<=x_1.2.2/\x_1.2.2<(v0.1.length:Int)/\x_1.2.2.toNat<v0.1.length/\ak .i64 ((aA x.2.1 v0.1 x.2.2).getD x_1.2.2.toNat 0+v0.1.getD x_1.2.2.toNat 0)/\ak .i64 (x_1.2.2+1)/\(0<=x_1.2.2+1/\x_1.2.2+1<=(x.2.1.length:Int)/\aA x.2.1 v0.1 x.2.2=aA x.2.1 v0.1 x.2.2/\x_1.1=gG x.2.2 x.2.1 v0.1 (x_1.2.2+1).toNat/\(aA x.2.1 v0.1 x.2.2).getD x_1.2.2.toNat 0+v0.1.getD x_1.2.2.toNat 0=bx x.2.2 x.2.1 v0.1 (x_1.2.2+1).toNat)/\((x.2.1.length:Int) - (x_1.2.2+1)).toNat<((x.2.1.length:Int) - x_1.2.2).toNat))/\(decide (x_1.2.2<(↑(aA x.2.1 v0.1 x.2.2).length:Int))=false->∀ (_:Array Value),(decide (x_1.2.1<(x.1.length:Int))=true->ak .i64 ((x.1.length:Int) - x_1.2.1)/\(x_1.1.length+[(x_1.2.1,(x.1.length:Int) - x_1.2.1)].length) * (8+8)<=aK/\x_1.1++[(x_1.2.1,(x.1.length:Int) - x_1.2.1)]=v1.1/\0=v1.2/\True)/\(decide (x_1.2.1<(x.1.length:Int))=false->x_1.1=v1.1/\0=v1.2/\True)))) (aU x.1 x.2.1 x.2.2)) (gS x.1 x.2.1 x.2.2)
theorem zV:sS:=by
 unfold sS;intro ⟨a,keep,pinned⟩ ⟨⟨ha,_⟩,_⟩ _;unfold aK at ha;simp only at ha |-;have hF:gS a keep pinned=(if (aU a keep pinned).2≠0 then [] else ck a.length keep (aU a keep pinned).1 pinned,(aU a keep pinned).2):=rfl;rw [hF];refine ⟨trivial,fun hc=>?_,fun hc=>?_⟩
 ·rw [if_pos (tM hc)];exact ⟨rfl,rfl,trivial⟩
 have hz:(aU a keep pinned).2=0:=by simpa using uZ hc
 have hp:=rU hz;rw [if_neg (by omega),hz];generalize (aU a keep pinned).1=long at *;have hlen:(aA keep long pinned).length=keep.length:=by simp [aA]
 have hp':=hp;obtain ⟨p1,p2,p3,p4⟩:=hp';rw [hlen];refine ⟨hp,⟨by omega,by omega,trivial,rfl,rfl⟩,fun ⟨out,e,i⟩ ⟨h0,h1,_,h2,h3⟩=>⟨fun hlt=>?_,fun hge=>?_⟩⟩
 ·have hlt':i<(keep.length:Int):=tM hlt;simp only at h0 h1 h2 h3 |-;have ht:=rz pinned hp (i:=i.toNat) (by omega);have he:=cq pinned hp i.toNat (by omega);have he':=cq pinned hp (i.toNat+1) (by omega);have hE':bx pinned keep long (i.toNat+1)=fD pinned keep long i.toNat+long.getD i.toNat 0:=rfl
  have hg:(aA keep long pinned).getD i.toNat 0=fD pinned keep long i.toNat:=by
   unfold aA;rw [List.getD_eq_getElem?_getD,List.getElem?_map,List.getElem?_range (by omega)];rfl
  have hl:=iR pinned keep long i.toNat;rw [<- h2] at hl;have hs:(i+1).toNat=i.toNat+1:=by omega
  have hG:gG pinned keep long (i.toNat+1)=out++(if bx pinned keep long i.toNat<fD pinned keep long i.toNat then [(bx pinned keep long i.toNat,fD pinned keep long i.toNat - bx pinned keep long i.toNat)] else []):=by
   rw [h2];rfl
  rw [hg,hs,hG,hE',<- h3];rw [hE'] at he';rw [<- h3] at he;unfold aK;simp only [ak,HN,QQ];refine ⟨h0,hlt',by omega,fun _=>⟨fun hc=>?_,fun hc=>?_⟩⟩
  ·rw [if_pos (tM hc)];exact ⟨by omega,by omega,h0,by omega,by omega,by omega,by omega,⟨by omega,by omega,trivial,rfl,trivial⟩,by omega⟩
  ·rw [if_neg (uZ hc),Q8];exact ⟨h0,by omega,by omega,by omega,by omega,⟨by omega,by omega,trivial,rfl,trivial⟩,by omega⟩
 ·have hge:¬ i<(keep.length:Int):=uZ hge;simp only at h0 h1 h2 h3 |-;have hi:i.toNat=keep.length:=by omega
  rw [hi] at h2 h3;have he:=cq pinned hp keep.length (by omega);have hl:=iR pinned keep long keep.length
  have hP:ck a.length keep long pinned=out++(if bx pinned keep long keep.length<a.length then [(bx pinned keep long keep.length,a.length - bx pinned keep long keep.length)] else []):=by
   rw [h2];rfl
  rw [<- h2] at hl;rw [hP,<- h3];rw [<- h3] at he;unfold aK;simp only [ak,HN,QQ];refine fun _=>⟨fun hc=>?_,fun hc=>?_⟩
  ·rw [if_pos (tM hc)];exact ⟨by omega,by omega,rfl,trivial,trivial⟩
  ·rw [if_neg (uZ hc),Q8];exact ⟨rfl,trivial,trivial⟩
theorem D1:CV.ok Tryz.prog 255:=aD (ann:=Fb) (ae D3 (ae If ap)) Tryz.func255 (by kernel_rfl) zV
theorem Kw (a:List Int) (at_:Int):af (b9 at_ (ac a).1).1=0:=by
 rcases gF at_ (ac a).1 with e | ⟨s,h1,_,_,e⟩
 ·rw [e]; rfl
 ·rw [e]; exact (fb a s h1).2.2
theorem PZ (a:List Int) (at_:Int):1<=dw (ac a).1 at_/\dw (ac a).1 at_<=256:=by
 have:=a7 (Kw a at_);unfold dw aa;omega
end
section
theorem l8:∀ {l:List aw} {s e:Int},fI s e l->∀ x∈l,s<=x.1/\1<=aa x.2
 | [],_,_,_,x,h=>by cases h
 | y::l,s,e,⟨h1,h2,h3⟩,x,h=>by
  rcases Qs.1 h with rfl | h
  ·omega
  ·have:=l8 h3 x h;omega
theorem uJ:∀ {l:List aw} {s e:Int},fI s e l->∀ x∈l,∀ y∈l,x.1<y.1->x.1+aa x.2<=y.1
 | [],_,_,_,x,h,_,_,_=>by cases h
 | z::l,s,e,⟨h1,h2,h3⟩,x,hx,y,hy,hlt=>by
  rcases Qs.1 hx with hx1 | hx1 <;> rcases Qs.1 hy with hy1 | hy1
  ·subst hx1; subst hy1; omega
  ·have:=l8 h3 y hy1;subst hx1; omega
  ·have:=l8 h3 x hx1;subst hy1; omega
  ·exact uJ h3 x hx1 y hy1 hlt
theorem Lm {pinned keep long:List Int} {i:Nat} (hle:bx pinned keep long i<=keep.getD i 0):bx pinned keep long i<=fD pinned keep long i/\fD pinned keep long i<=keep.getD i 0:=by
 unfold fD;split <;> omega
theorem Iz {pinned keep long:List Int} {N:Int} (hp:jy keep long) (hd:∀ i:Nat,i+1<keep.length->keep.getD i 0+long.getD i 0<=keep.getD (i+1) 0) (hN:∀ i:Nat,i<keep.length->keep.getD i 0+long.getD i 0<=N) :
  ∀ i:Nat,i<keep.length->bx pinned keep long i<=keep.getD i 0
 | 0,hi=>by
  have:=hp.2.2.1 _ (aI (0:Int) (xs:=keep) (i:=(0:Nat)) (by omega) (by omega));simp only [Q5] at this;simp only [bx];omega
 | i+1,hi=>by
  have ih:=Iz (pinned:=pinned) hp hd hN i (by omega);have h1:=Lm ih;have h2:=hd i hi;have e:bx pinned keep long (i+1)=fD pinned keep long i+long.getD i 0:=rfl;rw [e];omega
theorem Kp {a keep pinned:List Int} (h:(aU a keep pinned).2=0):(∀ i:Nat,i+1<keep.length->keep.getD i 0+(keep.map (dw (ac a).1)).getD i 0<=keep.getD (i+1) 0)/\∀ i:Nat,i<keep.length->keep.getD i 0+(keep.map (dw (ac a).1)).getD i 0<=(a.length:Int):=by
 obtain ⟨h1,h2,_,h4,_,_⟩:=wi h
 have hG:∀ k:Nat,k<keep.length->(keep.map (dw (ac a).1)).getD k 0=dw (ac a).1 (keep.getD k 0):=by
  intro k hk;rw [List.getD_eq_getElem?_getD,List.getElem?_map,List.getD_eq_getElem?_getD,List.getElem?_eq_getElem hk];rfl
 obtain ⟨_,_,hs3,hs4,_,_,_⟩:=bp h1;have ht:=fZ hs4
 have hm:∀ i:Nat,i<keep.length->keep.getD i 0∈keep:=fun i hi=>by
  have:=aI (0:Int) (xs:=keep) (i:=i) (by omega) (by omega);simpa only [Q5] using this
 refine ⟨fun i hi=>?_,fun i hi=>?_⟩
 ·rw [hG i (by omega)];obtain ⟨s,s1,s2,_,s4⟩:=wx (h4 _ (hm i (by omega)));obtain ⟨t,t1,t2,_,_⟩:=wx (h4 _ (hm (i+1) hi))
  have hlt:keep.getD i 0<keep.getD (i+1) 0:=by
   have hp:=Sl.1 (gy h2) i (i+1) (by omega) hi (by omega);rw [List.getD_eq_getElem?_getD,List.getElem?_eq_getElem (by omega),List.getD_eq_getElem?_getD,List.getElem?_eq_getElem hi];exact hp
  rw [s4,<- s2,<- t2];exact uJ ht s s1 t t1 (by omega)
 ·rw [hG i hi];obtain ⟨s,s1,s2,_,s4⟩:=wx (h4 _ (hm i hi));obtain ⟨_,hin,hh⟩:=fb a s s1;have hz:=a7 hh;rw [s4,<- s2];unfold du at hin;unfold aa;omega
end
section
theorem CL (at_:Int) (l:List Int) (r:List aw) (h:spotsS at_ l=some r):∀ s∈r,at_<=s.1/\s.2=aW (l.getD (s.1 - at_).toNat 0)/\bg (l.getD (s.1 - at_).toNat 0)=true:=by
 induction at_,l using spotsS.induct generalizing r with
 | case1 at_ =>
  simp only [spotsS,pS] at h;subst h;simp
 | case2 at_ v l hv ih =>
  rw [cT hv.1 hv.2] at h;obtain ⟨r',hr,rfl⟩:=Dm.1 h;have hl:=eg hv.1;intro s hs;rcases Qs.1 hs with rfl | hs
  ·simp only [Int.sub_self];exact ⟨RX _,rfl,hv.1⟩
  ·obtain ⟨h1,h2,h3⟩:=ih r' hr s hs
   have e:((v::l).drop (aa (aW v)).toNat).getD (s.1 - (at_+aa (aW v))).toNat 0=(v::l).getD (s.1 - at_).toNat 0:=by
    rw [List.getD_eq_getElem?_getD,List.getElem?_drop,List.getD_eq_getElem?_getD];congr 2;omega
   rw [e] at h2 h3;exact ⟨by omega,h2,h3⟩
 | case3 at_ v l hv =>
  rw [eZ hv] at h;cases h
theorem sD {a:List Int}:∀ s∈(ac a).1,s.2=aW (a.getD s.1.toNat 0)/\bg (a.getD s.1.toNat 0)=true:=by
 unfold ac;split
 ·intro s hs; cases hs
 ·cases h:spotsS 0 a with
  | none=>intro s hs; cases hs
  | some l =>
   intro s hs;have:=CL 0 a l h s hs;rw [Su] at this;exact this.2
def eX (a:List Int) (at_:Int):dY:=(b9 at_ (ac a).1).1
def bP (a:List Int) (at_:Int):List Int:=aQ a (at_,eX a at_)
def hY (a:List Int) (at_:Int):List Int:=iX a (at_,eX a at_)
theorem fG {a:List Int} {at_:Int} (h:isB (ac a).1 at_=true):(at_,eX a at_)∈(ac a).1/\du a (at_,eX a at_)/\af (eX a at_)=0/\eX a at_=aW (a.getD at_.toNat 0)/\bg (a.getD at_.toNat 0)=true/\(eX a at_).2.2.2=false:=by
 unfold isB eX at *;rcases gF at_ (ac a).1 with e | ⟨s,h1,h2,h3,e⟩
 ·rw [e] at h; cases h
 ·rw [e];have e2:(at_,s.2)=s:=by rw [<- h2]
  rw [e2];obtain ⟨_,k2,k3⟩:=fb a s h1;obtain ⟨k4,k5⟩:=sD s h1;rw [h2] at k4 k5;exact ⟨h1,k2,k3,k4,k5,h3⟩
theorem cd {a:List Int} {at_:Int} (h:isB (ac a).1 at_=true):((bP a at_).length:Int)=(eX a at_).1/\((hY a at_).length:Int)=(eX a at_).2.1/\0<=at_/\at_+1+(eX a at_).1+(eX a at_).2.1<=a.length/\0<=(eX a at_).1/\0<=(eX a at_).2.1:=by
 obtain ⟨_,k2,_⟩:=fG h;unfold du at k2;simp only at k2;refine ⟨?_,?_,by omega,by omega,by omega,by omega⟩
 ·unfold bP aQ;rw [QH,QD];simp only;omega
 ·unfold hY iX;rw [QH,QD];simp only;omega
theorem GU {a:List Int} {at_:Int} (h:isB (ac a).1 at_=true):(a.drop at_.toNat).take (1+(eX a at_).1+(eX a at_).2.1).toNat=a.getD at_.toNat 0::(bP a at_++hY a at_):=by
 obtain ⟨l1,l2,l3,l4,l5,l6⟩:=cd h;unfold bP hY aQ iX;simp only;rw [bI (0:Int) l3 (by omega),show (1+(eX a at_).1+(eX a at_).2.1).toNat=((eX a at_).1+(eX a at_).2.1).toNat+1 by omega,RC];congr 1;generalize (eX a at_).1=r at *;generalize (eX a at_).2.1=b at *
 rw [List.drop_take,List.drop_take,show (r+b).toNat=r.toNat+b.toNat by omega,show (at_+1+r).toNat - (at_+1).toNat=r.toNat by omega,show (at_+1+r+b).toNat - (at_+1+r).toNat=b.toNat by omega,
  List.take_add,RM,show (at_+1).toNat+r.toNat=(at_+1+r).toNat by omega]
def lI (keep to:List Int) (v:Int):Option Int:=if v=0 then some 0 else if fR keep (v - 1)=true then some (to.getD (cK keep (v - 1)).toNat 0+1) else none
def kS (keep to:List Int) (v:Int):Int:=(lI keep to v).getD 0
def fq (keep to l:List Int):Bool:=l.all fun v=>(lI keep to v).isSome
def il (a keep to:List Int) (at_:Int):List Int:=a.getD at_.toNat 0::((bP a at_).map (kS keep to)++hY a at_)
def r6 (pinned keep long:List Int) (i:Nat):List Int:=List.replicate (fD pinned keep long i - bx pinned keep long i).toNat 0
def eM (a keep to pinned long:List Int):Nat->List Int
 | 0=>[]
 | i+1=>eM a keep to pinned long i++(r6 pinned keep long i++il a keep to (keep.getD i 0))
def jG (w:List Int) (r:db):List Int:=w.set r.1.toNat (aC (0,r.2 - 1,0,true))
def mI (a keep to pinned long:List Int) (g:List db):List Int :=
 g.foldl jG (eM a keep to pinned long keep.length++List.replicate ((a.length:Int) - bx pinned keep long keep.length).toNat 0)
def et (a keep pinned:List Int):List Int×List Int×Int :=
 if (aU a keep pinned).2≠0 then ([],[],(aU a keep pinned).2)
 else if (keep.all fun at_=>fq keep (aA keep (aU a keep pinned).1 pinned) (bP a at_))=true then
  (mI a keep (aA keep (aU a keep pinned).1 pinned) pinned (aU a keep pinned).1 (ck a.length keep (aU a keep pinned).1 pinned),aA keep (aU a keep pinned).1 pinned,0)
 else ([],[],8)
structure Plan (a keep pinned long:List Int):Prop where
 chk:(am a).2.2=0
 al:a.length<=256
 isb:∀ x∈keep,isB (ac a).1 x=true
 pre:jy keep long
 lg:∀ i:Nat,i<keep.length->long.getD i 0=1+(eX a (keep.getD i 0)).1+(eX a (keep.getD i 0)).2.1
 le:∀ i:Nat,i<keep.length->bx pinned keep long i<=fD pinned keep long i/\fD pinned keep long i+long.getD i 0<=(a.length:Int)
 en:bx pinned keep long keep.length<=(a.length:Int)
 rs:keep.Pairwise (·<·)
theorem Ia {a keep pinned:List Int} (h:(aU a keep pinned).2=0):Plan a keep pinned (aU a keep pinned).1:=by
 obtain ⟨k1,k2,_,k4,_,k6⟩:=wi h;obtain ⟨d1,d2⟩:=Kp h;have hp:=rU h;rw [k6] at hp |-
 have hG:∀ k:Nat,k<keep.length->(keep.map (dw (ac a).1)).getD k 0=dw (ac a).1 (keep.getD k 0):=by
  intro k hk;rw [List.getD_eq_getElem?_getD,List.getElem?_map,List.getD_eq_getElem?_getD,List.getElem?_eq_getElem hk];rfl
 have hle:=Iz (pinned:=pinned) hp d1 d2
 have hto:∀ i:Nat,i<keep.length->bx pinned keep (keep.map (dw (ac a).1)) i<=fD pinned keep (keep.map (dw (ac a).1)) i/\fD pinned keep (keep.map (dw (ac a).1)) i+(keep.map (dw (ac a).1)).getD i 0<=(a.length:Int):=fun i hi=>by
  have h1:=Lm (hle i hi);have h2:=d2 i hi;omega
 refine ⟨k1,(bp k1).1,k4,hp,fun i hi=>by rw [hG i hi]; rfl,hto,?_,gy k2⟩;cases hn:keep.length with
 | zero=>simp [bx]
 | succ n =>
  have:=hto n (by omega);show fD pinned keep (keep.map (dw (ac a).1)) n+(keep.map (dw (ac a).1)).getD n 0<=_;exact this.2
theorem ll {a keep to:List Int} {at_:Int} (h:isB (ac a).1 at_=true):((il a keep to at_).length:Int)=1+(eX a at_).1+(eX a at_).2.1:=by
 obtain ⟨l1,l2,_⟩:=cd h;unfold il;simp only [HN,KK,Q3];omega
theorem ef {keep:List Int} {i:Nat} (h:i<keep.length):keep.getD i 0∈keep:=by
 have:=aI (0:Int) (xs:=keep) (i:=i) (by omega) (by omega);simpa only [Q5] using this
theorem lc {a keep pinned long:List Int} (to:List Int) (hP:Plan a keep pinned long):∀ i:Nat,i<=keep.length->((eM a keep to pinned long i).length:Int)=bx pinned keep long i
 | 0,_=>rfl
 | i+1,hi=>by
  have ih:=lc to hP i (by omega);have h1:=ll (keep:=keep) (to:=to) (hP.isb _ (ef (i:=i) (by omega)));have h2:=hP.le i (by omega);have h3:=hP.lg i (by omega);have hE:bx pinned keep long (i+1)=fD pinned keep long i+long.getD i 0:=rfl;simp only [eM,KK,r6,QV];omega
def qG (keep to:List Int):Nat->List (Int×Int)
 | 0=>[(0,0)]
 | i+1=>gp (qG keep to i) (keep.getD i 0+1) (to.getD i 0+1)
theorem oM {α:Type} (f:α->Bool) (x:α):∀ (l:List α) (k:Int),ag f k (l++[x])=if l.any f=true then ag f k l else if f x=true then k+l.length else -1
 | [],k=>by simp [ag]
 | y::l,k=>by
  have ih:=oM f x l (k+1);simp only [Rf,ag,Sa,ih];by_cases hy:f y=true
  ·simp [hy]
  ·have hy:f y=false:=by simpa using hy
   simp only [hy,Qz,QW,Sv,HN];split
   ·rfl
   ·split
    ·omega
    ·rfl
theorem zm {keep to:List Int} (hk:keep.Pairwise (·<·)) (h0:∀ x∈keep,0<=x) (v:Int):∀ i:Nat,i<=keep.length->bA (qG keep to i) v=if v=0 then some 0 else if fR (keep.take i) (v - 1)=true then some (to.getD (cK (keep.take i) (v - 1)).toNat 0+1) else none
 | 0,_=>by
  simp only [qG,bA,R1,fR,List.any_nil,Qz,QW];by_cases hv:v=0
  ·simp [hv]
  ·simp [hv,Ne.symm hv]
 | i+1,hi=>by
  have ih:=zm (to:=to) hk h0 v i (by omega);have hx:=h0 _ (ef (i:=i) (by omega))
  have ht:keep.take (i+1)=keep.take i++[keep.getD i 0]:=by
   rw [Q4 (by omega)];congr 2;rw [List.getD_eq_getElem?_getD,List.getElem?_eq_getElem (by omega)];rfl
  have hnot:fR (keep.take i) (keep.getD i 0)=false:=by
   unfold fR;rw [SQ];intro y hy;obtain ⟨j,hj,rfl⟩:=SZ.1 hy;rw [QD] at hj;have:=Sl.1 hk j i (by omega) (by omega) (by omega);rw [List.getElem_take];simp only [QP];rw [List.getD_eq_getElem?_getD,List.getElem?_eq_getElem (by omega)];simp only [SK];omega
  simp only [qG];rw [jO,ih,ht];unfold cK fR;rw [oM,List.any_append];simp only [Sa,List.any_nil,RY,QD];by_cases hv:v=keep.getD i 0+1
  ·rw [if_pos hv,if_neg (by omega)];have e:v - 1=keep.getD i 0:=by omega
   rw [e];unfold fR at hnot;rw [hnot];simp only [decide_true,Bool.or_true,if_true,Qz,QW];rw [show (0+((min i keep.length:Nat):Int)).toNat=i by omega]
  ·rw [if_neg hv];have e:decide (keep.getD i 0=v - 1)=false:=Rz (by omega);rw [e,RY];split
   ·rfl
   ·split
    ·rfl
    ·rfl
theorem Mq {keep to:List Int} (hk:keep.Pairwise (·<·)) (h0:∀ x∈keep,0<=x) (v:Int):bA (qG keep to keep.length) v=lI keep to v:=by
 rw [zm hk h0 v keep.length (QI _),List.take_length];rfl
theorem sF:∀ {l:List aw} {s t:aw},l.Pairwise (fun s t=>s.1<t.1)->s∈l->t∈l->s.1=t.1->s=t
 | x::l,s,t,h,hs,ht,e=>by
  obtain ⟨h1,h2⟩:=Q9.1 h;rcases Qs.1 hs with hs | hs <;> rcases Qs.1 ht with ht | ht
  ·rw [hs,ht]
  ·have:=h1 t ht; subst hs; omega
  ·have:=h1 s hs; subst ht; omega
  ·exact sF h2 hs ht e
theorem IH {a:List Int} {at_:Int} (hc:(am a).2.2=0) (h:isB (ac a).1 at_=true):(iy a at_).1.2.1.length=(bP a at_).length/\(iy a at_).1.2.2.1.length=(hY a at_).length:=by
 obtain ⟨k1,_⟩:=fG h;obtain ⟨_,_,e3,_⟩:=bp hc;have hany:((ac a).1.any fun s:aw=>decide (s.1=at_))=true:=RI.2 ⟨_,k1,by simp⟩;have hpos:=ep (fun s:aw=>decide (s.1=at_)) (ac a).1 0 (by omega);rw [hany] at hpos;have hpos:=tM hpos;have hlt:=em (fun s:aw=>decide (s.1=at_)) (0,0,0,0,false) (ac a).1 0 (by omega);have his:=eo (fun s:aw=>decide (s.1=at_)) (0,0,0,0,false) (ac a).1 0 hpos (by omega);rw [Su] at his;have hm:=aI ((0,0,0,0,false):aw) (xs:=(ac a).1) hpos (by omega);have e:=sF (ca a) hm k1 (tM his);unfold iy;rw [if_neg (by omega),e3,if_neg (by omega),e];unfold im bP hY;exact ⟨by rw [Q3],rfl⟩
theorem pZ {A B:List Int} {x:Int} (y:Int) {n:Nat} (h:n=A.length):(A++x::B).set n y=A++y::B:=by
 rw [h,R5 _ _ (QI _)];simp
theorem Oj {A B:List Int} {x:Int} {n:Nat} (h:n=A.length):(A++x::B).getD n 0=x:=by
 rw [h,List.getD_eq_getElem?_getD,List.getElem?_append_right (QI _)];simp
theorem zA {a keep pinned long:List Int} (hP:Plan a keep pinned long):∀ i:Nat,i<=keep.length->∀ r∈gG pinned keep long i,0<=r.1/\1<=r.2/\r.1+r.2<=(a.length:Int)
 | 0,_,r,hr=>by cases hr
 | i+1,hi,r,hr=>by
  simp only [gG] at hr;rcases Qx.1 hr with hr | hr
  ·exact zA hP i (by omega) r hr
  ·have h1:=hP.le i (by omega);have h2:=hP.lg i (by omega);have h3:=cq pinned hP.pre i (by omega);obtain ⟨_,_,_,l4,l5,l6⟩:=cd (hP.isb _ (ef (i:=i) (by omega)));split at hr
   ·simp only [QA] at hr;subst hr;simp only;omega
   ·cases hr
theorem DU {a keep pinned long:List Int} (hP:Plan a keep pinned long):∀ r∈ck a.length keep long pinned,0<=r.1/\1<=r.2/\r.1+r.2<=(a.length:Int):=by
 intro r hr;unfold ck at hr;rcases Qx.1 hr with hr | hr
 ·exact zA hP _ (QI _) r hr
 ·have h3:=cq pinned hP.pre keep.length (QI _);split at hr
  ·simp only [QA] at hr;subst hr;simp only;omega
  ·cases hr
theorem tW (n:Int) (keep long pinned:List Int):(ck n keep long pinned).length<=keep.length+1:=by
 have:=iR pinned keep long keep.length;unfold ck;rw [KK];split <;> simp <;> omega
def Ni:Nat->Option LoopGen
 | 6=>some { rd:=[.dat 39 (.arr ty_I),.own 9 3 ty_I],A:=fun ((keep,to):List Int×List Int)=>{ cs:=[.map 37 .u64 bi,.dat 41 ty_I],inv:=fun ((m,i):List (Int×Int)×Int)=>0<=i/\i<=keep.length/\m=qG keep to i.toNat,mu:=fun ((_,i):List (Int×Int)×Int)=>(keep.length - i).toNat } }
 | 12=>some { rd:=[.dat 60 (.arr ty_I),.own 9 3 ty_I,.dat 0 (.arr bi),.dat 2 (.arr ty_I)],wr:=[14],A:=fun ((keep,to,a,pinned):List Int×List Int×List Int×List Int)=>{ cs:=[.own 14 45 bi,.dat 62 ty_I],inv:=fun ((w,i):List Int×Int)=>0<=i/\i<=keep.length/\((keep.drop i.toNat).all fun at_=>fq keep to (bP a at_))=(keep.all fun at_=>fq keep to (bP a at_))/\w=eM a keep to pinned (aU a keep pinned).1 i.toNat++List.replicate ((a.length:Int) - bx pinned keep (aU a keep pinned).1 i.toNat).toNat 0,mu:=fun ((_,i):List Int×Int)=>(keep.length - i).toNat } }
 | 18=>some { rd:=[.dat 60 (.arr ty_I),.own 9 3 ty_I,.dat 0 (.arr bi),.dat 2 (.arr ty_I),.dat 15 ty_I,.dat 99 ty_I],wr:=[14,19],A:=fun ((keep,to,a,pinned,i,n):List Int×List Int×List Int×List Int×Int×Int)=>{ cs:=[.own 14 45 bi,.part 19 14 bi,.dat 100 ty_I],inv:=fun ((w,pt,k):List Int×(Nat×Nat)×Int)=>0<=k/\k<=n/\pt.1=(fD pinned keep (aU a keep pinned).1 i.toNat).toNat/\(pt.2:Int)=(aU a keep pinned).1.getD i.toNat 0/\fq keep to ((bP a (keep.getD i.toNat 0)).drop k.toNat)=fq keep to (bP a (keep.getD i.toNat 0)) /\
   w=(eM a keep to pinned (aU a keep pinned).1 i.toNat++(r6 pinned keep (aU a keep pinned).1 i.toNat++a.getD (keep.getD i.toNat 0).toNat 0::((bP a (keep.getD i.toNat 0)).take k.toNat).map (kS keep to)))++((bP a (keep.getD i.toNat 0)).drop k.toNat++(hY a (keep.getD i.toNat 0)++List.replicate ((a.length:Int) - bx pinned keep (aU a keep pinned).1 (i.toNat+1)).toNat 0)),mu:=fun ((_,_,k):List Int×(Nat×Nat)×Int)=>(n - k).toNat } }
 | 28=>some { rd:=[.own 129 105 jW,.own 14 45 bi],wr:=[14],A:=fun ((g,w0):List db×List Int)=>{ cs:=[.own 14 45 bi,.dat 131 ty_I],inv:=fun ((w,i):List Int×Int)=>0<=i/\i<=g.length/\w.length=w0.length/\w=(g.take i.toNat).foldl jG w0,mu:=fun ((_,i):List Int×Int)=>(g.length - i).toNat } }
 | _=>none
def Lv:Spec:={ Ts:=[.arr bi,.arr ty_I,.arr ty_I],Rs:=[.own 45 bi,.own 3 ty_I,.dat ty_I],pre:=fun _=>True,F:=fun ((a,keep,pinned):List Int×List Int×List Int)=>et a keep pinned }
def DF:Prop :=
  ∀ (x:List Int×List Int×List Int),(fun (v4:type_of% (et x.1 x.2.1 x.2.2))=>(fun (v2:type_of% (gS x.1 x.2.1 x.2.2))=>(fun (v0:type_of% (aU x.1 x.2.1 x.2.2))=>((x.1.length * 8<=aK/\∀ (x_1:Int),x_1∈x.1->ak .u64 x_1)/\(x.2.1.length * 8<=aK/\∀ (x_1:Int),x_1∈x.2.1->ak .i64 x_1)/\x.2.2.length * 8<=aK/\∀ (x_1:Int),x_1∈x.2.2->ak .i64 x_1)->True->True/\(decide (v0.2≠0)=true->([]:List Int)=v4.1/\([]:List Int)=v4.2.1/\v0.2=v4.2.2/\True)/\(decide (v0.2≠0)=false->((0:Int)<=0/\0<=(x.2.1.length:Int)/\gp ([]:List (Int×Int)) 0 0=qG x.2.1 (if v0.2≠0 then ([]:List Int) else aA x.2.1 v0.1 x.2.2) (Int.toNat 0))/\∀ (x_1:List (Int×Int)×Int),0<=x_1.2/\x_1.2<=(x.2.1.length:Int)/\x_1.1=qG x.2.1 (if v0.2≠0 then ([]:List Int) else aA x.2.1 v0.1 x.2.2) x_1.2.toNat->(decide (x_1.2<(x.2.1.length:Int))=true->0<=x_1.2/\x_1.2<(x.2.1.length:Int)/\ak .u64 (IntKind.u64.wrap (x.2.1.getD x_1.2.toNat 0)+1)/\0<=x_1.2/\x_1.2<(↑(if v0.2≠0 then ([]:List Int) else aA x.2.1 v0.1 x.2.2).length:Int)/\x_1.2.toNat<(if v0.2≠0 then ([]:List Int) else aA x.2.1 v0.1 x.2.2).length/\ak .u64 (IntKind.u64.wrap ((if v0.2≠0 then ([]:List Int) else aA x.2.1 v0.1 x.2.2).getD x_1.2.toNat 0)+1)/\ak .i64 (x_1.2+1)/\(0<=x_1.2+1/\x_1.2+1<=(x.2.1.length:Int)/\gp x_1.1 (IntKind.u64.wrap (x.2.1.getD x_1.2.toNat 0)+1) (IntKind.u64.wrap ((if v0.2≠0 then ([]:List Int) else aA x.2.1 v0.1 x.2.2).getD x_1.2.toNat 0)+1)=qG x.2.1 (if v0.2≠0 then ([]:List Int) else aA x.2.1 v0.1 x.2.2) (x_1.2+1).toNat)/\((x.2.1.length:Int) - (x_1.2+1)).toNat<((x.2.1.length:Int) - x_1.2).toNat)/\(decide (x_1.2<(x.2.1.length:Int))=false->0<=(x.1.length:Int)/\(x.1.length:Int).toNat * 8<=aK/\((0:Int)<=0/\0<=(x.2.1.length:Int)/\(((List.drop (Int.toNat 0) x.2.1).all fun (at_:Int)=>fq x.2.1 (if v0.2≠0 then ([]:List Int) else aA x.2.1 v0.1 x.2.2) (bP x.1 at_))=x.2.1.all fun (at_:Int)=>fq x.2.1 (if v0.2≠0 then ([]:List Int) else aA x.2.1 v0.1 x.2.2) (bP x.1 at_))/\List.replicate (x.1.length:Int).toNat (0:Int)=eM x.1 x.2.1 (if v0.2≠0 then ([]:List Int) else aA x.2.1 v0.1 x.2.2) x.2.2 v0.1 (Int.toNat 0)++List.replicate ((x.1.length:Int) - bx x.2.2 x.2.1 v0.1 (Int.toNat 0)).toNat (0:Int))/\∀ (x_2:List Int×Int),(fun (v1:type_of% (x.2.1.getD x_2.2.toNat 0))=>0<=x_2.2/\x_2.2<=(x.2.1.length:Int)/\(((List.drop x_2.2.toNat x.2.1).all fun (at_:Int)=>fq x.2.1 (if v0.2≠0 then ([]:List Int) else aA x.2.1 v0.1 x.2.2) (bP x.1 at_))=x.2.1.all fun (at_:Int)=>fq x.2.1 (if v0.2≠0 then ([]:List Int) else aA x.2.1 v0.1 x.2.2) (bP x.1 at_))/\x_2.1=eM x.1 x.2.1 (if v0.2≠0 then ([]:List Int) else aA x.2.1 v0.1 x.2.2) x.2.2 v0.1 x_2.2.toNat++List.replicate ((x.1.length:Int) - bx x.2.2 x.2.1 v0.1 x_2.2.toNat).toNat (0:Int)->(decide (x_2.2<(x.2.1.length:Int))=true->0<=x_2.2/\x_2.2<(x.2.1.length:Int)/\True/\0<=x_2.2/\x_2.2<(↑(if v0.2≠0 then ([]:List Int) else aA x.2.1 v0.1 x.2.2).length:Int)/\x_2.2.toNat<(if v0.2≠0 then ([]:List Int) else aA x.2.1 v0.1 x.2.2).length/\0<=x_2.2/\x_2.2<(↑(if v0.2≠0 then ([]:List Int) else aA x.2.1 v0.1 x.2.2).length:Int)/\x_2.2.toNat<(if v0.2≠0 then ([]:List Int) else aA x.2.1 v0.1 x.2.2).length/\ak .i64 ((if v0.2≠0 then ([]:List Int) else aA x.2.1 v0.1 x.2.2).getD x_2.2.toNat 0+1)/\ak .i64 ((if v0.2≠0 then ([]:List Int) else aA x.2.1 v0.1 x.2.2).getD x_2.2.toNat 0+1+(↑(iy x.1 v1).1.2.1.length:Int))/\ak .i64 ((if v0.2≠0 then ([]:List Int) else aA x.2.1 v0.1 x.2.2).getD x_2.2.toNat 0+1+(↑(iy x.1 v1).1.2.1.length:Int)+(↑(iy x.1 v1).1.2.2.1.length:Int))/\0<=(if v0.2≠0 then ([]:List Int) else aA x.2.1 v0.1 x.2.2).getD x_2.2.toNat 0/\(if v0.2≠0 then ([]:List Int) else aA x.2.1 v0.1 x.2.2).getD x_2.2.toNat 0<=(if v0.2≠0 then ([]:List Int) else aA x.2.1 v0.1 x.2.2).getD x_2.2.toNat 0+1+(↑(iy x.1 v1).1.2.1.length:Int)+(↑(iy x.1 v1).1.2.2.1.length:Int)/\(if v0.2≠0 then ([]:List Int) else aA x.2.1 v0.1 x.2.2).getD x_2.2.toNat 0+1+(↑(iy x.1 v1).1.2.1.length:Int)+(↑(iy x.1 v1).1.2.2.1.length:Int)<=(x_2.1.length:Int)/\0<=x.2.1.getD x_2.2.toNat 0/\x.2.1.getD x_2.2.toNat 0<=(x.1.length:Int)/\((if v0.2≠0 then ([]:List Int) else aA x.2.1 v0.1 x.2.2).getD x_2.2.toNat 0).toNat+(((if v0.2≠0 then ([]:List Int) else aA x.2.1 v0.1 x.2.2).getD x_2.2.toNat 0+1+(↑(iy x.1 v1).1.2.1.length:Int)+(↑(iy x.1 v1).1.2.2.1.length:Int)).toNat - ((if v0.2≠0 then ([]:List Int) else aA x.2.1 v0.1 x.2.2).getD x_2.2.toNat 0).toNat)<=x_2.1.length/\((0:Int)<=0/\0<=(↑(iy x.1 v1).1.2.1.length:Int)/\((if v0.2≠0 then ([]:List Int) else aA x.2.1 v0.1 x.2.2).getD x_2.2.toNat 0).toNat=(fD x.2.2 x.2.1 v0.1 x_2.2.toNat).toNat/\(↑(((if v0.2≠0 then ([]:List Int) else aA x.2.1 v0.1 x.2.2).getD x_2.2.toNat 0+1+(↑(iy x.1 v1).1.2.1.length:Int)+(↑(iy x.1 v1).1.2.2.1.length:Int)).toNat - ((if v0.2≠0 then ([]:List Int) else aA x.2.1 v0.1 x.2.2).getD x_2.2.toNat 0).toNat):Int)=v0.1.getD x_2.2.toNat 0/\fq x.2.1 (if v0.2≠0 then ([]:List Int) else aA x.2.1 v0.1 x.2.2) (List.drop (Int.toNat 0) (bP x.1 v1))=fq x.2.1 (if v0.2≠0 then ([]:List Int) else aA x.2.1 v0.1 x.2.2) (bP x.1 v1)/\List.take ((if v0.2≠0 then ([]:List Int) else aA x.2.1 v0.1 x.2.2).getD x_2.2.toNat 0).toNat x_2.1++(List.take (min (List.drop v1.toNat x.1).length (((if v0.2≠0 then ([]:List Int) else aA x.2.1 v0.1 x.2.2).getD x_2.2.toNat 0+1+(↑(iy x.1 v1).1.2.1.length:Int)+(↑(iy x.1 v1).1.2.2.1.length:Int)).toNat - ((if v0.2≠0 then ([]:List Int) else aA x.2.1 v0.1 x.2.2).getD x_2.2.toNat 0).toNat)) (List.drop v1.toNat x.1)++List.drop (((if v0.2≠0 then ([]:List Int) else aA x.2.1 v0.1 x.2.2).getD x_2.2.toNat 0).toNat+min (List.drop v1.toNat x.1).length (((if v0.2≠0 then ([]:List Int) else aA x.2.1 v0.1 x.2.2).getD x_2.2.toNat 0+1+(↑(iy x.1 v1).1.2.1.length:Int)+(↑(iy x.1 v1).1.2.2.1.length:Int)).toNat - ((if v0.2≠0 then ([]:List Int) else aA x.2.1 v0.1 x.2.2).getD x_2.2.toNat 0).toNat)) x_2.1)=eM x.1 x.2.1 (if v0.2≠0 then ([]:List Int) else aA x.2.1 v0.1 x.2.2) x.2.2 v0.1 x_2.2.toNat++(r6 x.2.2 x.2.1 v0.1 x_2.2.toNat++x.1.getD v1.toNat 0::List.map (kS x.2.1 (if v0.2≠0 then ([]:List Int) else aA x.2.1 v0.1 x.2.2)) (List.take (Int.toNat 0) (bP x.1 v1)))++(List.drop (Int.toNat 0) (bP x.1 v1)++(hY x.1 v1++List.replicate ((x.1.length:Int) - bx x.2.2 x.2.1 v0.1 (x_2.2.toNat+1)).toNat (0:Int))))/\∀ (x_3:List Int×(Nat×Nat)×Int),0<=x_3.2.2/\x_3.2.2<=(↑(iy x.1 v1).1.2.1.length:Int)/\x_3.2.1.1=(fD x.2.2 x.2.1 v0.1 x_2.2.toNat).toNat/\(↑x_3.2.1.2:Int)=v0.1.getD x_2.2.toNat 0/\fq x.2.1 (if v0.2≠0 then ([]:List Int) else aA x.2.1 v0.1 x.2.2) (List.drop x_3.2.2.toNat (bP x.1 v1))=fq x.2.1 (if v0.2≠0 then ([]:List Int) else aA x.2.1 v0.1 x.2.2) (bP x.1 v1)/\x_3.1=eM x.1 x.2.1 (if v0.2≠0 then ([]:List Int) else aA x.2.1 v0.1 x.2.2) x.2.2 v0.1 x_2.2.toNat++(r6 x.2.2 x.2.1 v0.1 x_2.2.toNat++x.1.getD v1.toNat 0::List.map (kS x.2.1 (if v0.2≠0 then ([]:List Int) else aA x.2.1 v0.1 x.2.2)) (List.take x_3.2.2.toNat (bP x.1 v1)))++(List.drop x_3.2.2.toNat (bP x.1 v1)++(hY x.1 v1++List.replicate ((x.1.length:Int) - bx x.2.2 x.2.1 v0.1 (x_2.2.toNat+1)).toNat (0:Int)))->(decide (x_3.2.2<(↑(iy x.1 v1).1.2.1.length:Int))=true->ak .i64 (1+x_3.2.2)/\(0:Int)<=1+x_3.2.2/\1+x_3.2.2<(↑x_3.2.1.2:Int)/\x_3.2.1.1+(1+x_3.2.2).toNat<x_3.1.length/\((!(bA x_1.1 (x_3.1.getD (x_3.2.1.1+(1+x_3.2.2).toNat) 0)).isSome)=true->([]:List Int)=v4.1/\([]:List Int)=v4.2.1/\8=v4.2.2/\True)/\((!(bA x_1.1 (x_3.1.getD (x_3.2.1.1+(1+x_3.2.2).toNat) 0)).isSome)=false->ak .i64 (1+x_3.2.2)/\(0:Int)<=1+x_3.2.2/\1+x_3.2.2<(↑x_3.2.1.2:Int)/\x_3.2.1.1+(1+x_3.2.2).toNat<x_3.1.length/\ak .i64 (x_3.2.2+1)/\(0<=x_3.2.2+1/\x_3.2.2+1<=(↑(iy x.1 v1).1.2.1.length:Int)/\x_3.2.1.1=(fD x.2.2 x.2.1 v0.1 x_2.2.toNat).toNat/\(↑x_3.2.1.2:Int)=v0.1.getD x_2.2.toNat 0/\fq x.2.1 (if v0.2≠0 then ([]:List Int) else aA x.2.1 v0.1 x.2.2) (List.drop (x_3.2.2+1).toNat (bP x.1 v1))=fq x.2.1 (if v0.2≠0 then ([]:List Int) else aA x.2.1 v0.1 x.2.2) (bP x.1 v1)/\x_3.1.set (x_3.2.1.1+(1+x_3.2.2).toNat) ((bA x_1.1 (x_3.1.getD (x_3.2.1.1+(1+x_3.2.2).toNat) 0)).getD 0)=eM x.1 x.2.1 (if v0.2≠0 then ([]:List Int) else aA x.2.1 v0.1 x.2.2) x.2.2 v0.1 x_2.2.toNat++(r6 x.2.2 x.2.1 v0.1 x_2.2.toNat++x.1.getD v1.toNat 0::List.map (kS x.2.1 (if v0.2≠0 then ([]:List Int) else aA x.2.1 v0.1 x.2.2)) (List.take (x_3.2.2+1).toNat (bP x.1 v1)))++(List.drop (x_3.2.2+1).toNat (bP x.1 v1)++(hY x.1 v1++List.replicate ((x.1.length:Int) - bx x.2.2 x.2.1 v0.1 (x_2.2.toNat+1)).toNat (0:Int))))/\((↑(iy x.1 v1).1.2.1.length:Int) - (x_3.2.2+1)).toNat<((↑(iy x.1 v1).1.2.1.length:Int) - x_3.2.2).toNat))/\(decide (x_3.2.2<(↑(iy x.1 v1).1.2.1.length:Int))=false->ak .i64 (x_2.2+1)/\(0<=x_2.2+1/\x_2.2+1<=(x.2.1.length:Int)/\(((List.drop (x_2.2+1).toNat x.2.1).all fun (at_:Int)=>fq x.2.1 (if v0.2≠0 then ([]:List Int) else aA x.2.1 v0.1 x.2.2) (bP x.1 at_))=x.2.1.all fun (at_:Int)=>fq x.2.1 (if v0.2≠0 then ([]:List Int) else aA x.2.1 v0.1 x.2.2) (bP x.1 at_))/\x_3.1=eM x.1 x.2.1 (if v0.2≠0 then ([]:List Int) else aA x.2.1 v0.1 x.2.2) x.2.2 v0.1 (x_2.2+1).toNat++List.replicate ((x.1.length:Int) - bx x.2.2 x.2.1 v0.1 (x_2.2+1).toNat).toNat (0:Int))/\((x.2.1.length:Int) - (x_2.2+1)).toNat<((x.2.1.length:Int) - x_2.2).toNat))/\(decide (x_2.2<(x.2.1.length:Int))=false->True/\((0:Int)<=0/\0<=(v2.1.length:Int)/\x_2.1.length=x_2.1.length/\x_2.1=List.foldl jG x_2.1 (List.take (Int.toNat 0) v2.1))/\∀ (x_3:List Int×Int),(fun (v3:type_of% (v2.1.getD x_3.2.toNat (0,0)))=>0<=x_3.2/\x_3.2<=(v2.1.length:Int)/\x_3.1.length=x_2.1.length/\x_3.1=List.foldl jG x_2.1 (List.take x_3.2.toNat v2.1)->(decide (x_3.2<(v2.1.length:Int))=true->0<=x_3.2/\x_3.2<(v2.1.length:Int)/\x_3.2.toNat<v2.1.length/\ak .i64 (v3.2 - 1)/\True/\0<=v3.1/\v3.1<(x_3.1.length:Int)/\v3.1.toNat<x_3.1.length/\af (0,v3.2 - 1,0,true)=af (0,v3.2 - 1,0,true)/\ak .i64 (x_3.2+1)/\(0<=x_3.2+1/\x_3.2+1<=(v2.1.length:Int)/\(x_3.1.set v3.1.toNat (if af (0,v3.2 - 1,0,true)=0 then aC (0,v3.2 - 1,0,true) else (0:Int))).length=x_2.1.length/\x_3.1.set v3.1.toNat (if af (0,v3.2 - 1,0,true)=0 then aC (0,v3.2 - 1,0,true) else (0:Int))=List.foldl jG x_2.1 (List.take (x_3.2+1).toNat v2.1))/\((v2.1.length:Int) - (x_3.2+1)).toNat<((v2.1.length:Int) - x_3.2).toNat)/\(decide (x_3.2<(v2.1.length:Int))=false->x_3.1=v4.1/\(if v0.2≠0 then ([]:List Int) else aA x.2.1 v0.1 x.2.2)=v4.2.1/\0=v4.2.2/\True)) (v2.1.getD x_3.2.toNat (0,0)))) (x.2.1.getD x_2.2.toNat 0)))) (aU x.1 x.2.1 x.2.2)) (gS x.1 x.2.1 x.2.2)) (et x.1 x.2.1 x.2.2)
theorem IT:DF:=by
 unfold DF;intro ⟨a,keep,pinned⟩ ⟨⟨hb,hw⟩,_⟩ _;unfold aK at hb;simp only at hb hw |-
 have hF:et a keep pinned=if (aU a keep pinned).2≠0 then ([],[],(aU a keep pinned).2)
  else if (keep.all fun at_=>fq keep (aA keep (aU a keep pinned).1 pinned) (bP a at_))=true then
   (mI a keep (aA keep (aU a keep pinned).1 pinned) pinned (aU a keep pinned).1 (ck a.length keep (aU a keep pinned).1 pinned),aA keep (aU a keep pinned).1 pinned,0)
  else ([],[],8):=rfl
 rw [hF];refine ⟨trivial,fun hc=>?_,fun hc=>?_⟩
 ·rw [if_pos (tM hc)];exact ⟨rfl,rfl,rfl,trivial⟩
 have hz:(aU a keep pinned).2=0:=by simpa using uZ hc
 have hP:=Ia hz
 have hG:gS a keep pinned=(ck a.length keep (aU a keep pinned).1 pinned,0):=by
  unfold gS;rw [if_neg (by omega),hz]
 rw [if_neg (by omega),if_neg (by omega),hG];clear hF hG hc hz;generalize (aU a keep pinned).1=long at *;have hto:(aA keep long pinned).length=keep.length:=by simp [aA]
 have htg:∀ i:Nat,i<keep.length->(aA keep long pinned).getD i 0=fD pinned keep long i:=by
  intro i hi;unfold aA;rw [List.getD_eq_getElem?_getD,List.getElem?_map,List.getElem?_range hi];rfl
 have hk0:∀ x∈keep,0<=x:=fun x hx=>(hP.pre.2.2.1 x hx).1
 have hkl:=hP.pre.2.1;have hlong:=hP.pre.1;have hal:=hP.al;have hgi:=DU hP;have hgl:=tW a.length keep long pinned;rw [hto];generalize aA keep long pinned=to at *;generalize ck a.length keep long pinned=g at *;refine ⟨⟨by omega,by omega,rfl⟩,fun ⟨m,i⟩ ⟨h0,h1,h2⟩=>⟨fun hlt=>?_,fun hge=>?_⟩⟩
 ·have hlt':i<(keep.length:Int):=tM hlt;simp only at h0 h1 h2 |-;have hx:=hP.pre.2.2.1 _ (aI (0:Int) h0 hlt');have ht:=rz pinned hP.pre (i:=i.toNat) (by omega);rw [<- htg i.toNat (by omega)] at ht;rw [eY (n:=keep.getD i.toNat 0) (by omega) (by omega),eY (n:=to.getD i.toNat 0) (by omega) (by omega)];simp only [ak];refine ⟨h0,hlt',by omega,h0,by omega,by omega,by omega,by omega,⟨by omega,by omega,?_⟩,by omega⟩;rw [show (i+1).toNat=i.toNat+1 by omega,h2];rfl
 have hge:¬ i<(keep.length:Int):=uZ hge;simp only at h0 h1 h2 |-;rw [show i.toNat=keep.length by omega] at h2;subst h2;clear h0 h1 hge;unfold aK;refine ⟨by omega,by omega,⟨by omega,by omega,rfl,?_⟩,fun ⟨w,i⟩ ⟨b0,b1,b2,b3⟩=>⟨fun hlt=>?_,fun hge=>?_⟩⟩
 ·simp [eM,bx]
 ·have hlt':i<(keep.length:Int):=tM hlt;simp only at b0 b1 b2 b3 |-;have hib:=hP.isb _ (aI (0:Int) b0 hlt');obtain ⟨l1,l2,l3,l4,l5,l6⟩:=cd hib;obtain ⟨o1,o2⟩:=IH hP.chk hib;have hle:=hP.le i.toNat (by omega);have hlg:=hP.lg i.toNat (by omega);have hul:=lc to hP i.toNat (by omega);have hE0:=cq pinned hP.pre i.toNat (by omega);have hE1:bx pinned keep long (i.toNat+1)=fD pinned keep long i.toNat+long.getD i.toNat 0:=rfl
  have hwl:w.length=a.length:=by
   rw [b3,KK,QV];omega
  rw [bI (0:Int) b0 hlt',Rt,show (i+1).toNat=i.toNat+1 by omega] at b2;have hup:eM a keep to pinned long (i.toNat+1)=eM a keep to pinned long i.toNat++(r6 pinned keep long i.toNat++il a keep to (keep.getD i.toNat 0)):=rfl;have hpw:il a keep to (keep.getD i.toNat 0)=a.getD (keep.getD i.toNat 0).toNat 0::((bP a (keep.getD i.toNat 0)).map (kS keep to)++hY a (keep.getD i.toNat 0)):=rfl;have hgw:(r6 pinned keep long i.toNat).length=(fD pinned keep long i.toNat - bx pinned keep long i.toNat).toNat:=by simp [r6]
  have hgd:r6 pinned keep long i.toNat=List.replicate (fD pinned keep long i.toNat - bx pinned keep long i.toNat).toNat 0:=rfl;have howd:=GU hib;rw [htg i.toNat (by omega),o1,o2,show (i+1).toNat=i.toNat+1 by omega,hup,hpw];clear hup hpw o1 o2 hib;generalize keep.getD i.toNat 0=at_ at *;have hfst:(eX a at_).1=((bP a at_).length:Int):=l1.symm;have hsnd:(eX a at_).2.1=((hY a at_).length:Int):=l2.symm;rw [hfst,hsnd] at hlg howd l4;generalize bP a at_=rs at *;generalize hY a at_=bd at *;rw [hlg] at hle hE1 |-;rw [hE1];generalize hS:eM a keep to pinned long i.toNat=S at *;generalize r6 pinned keep long i.toNat=G at *;generalize fD pinned keep long i.toNat=t at *;generalize bx pinned keep long i.toNat=e at *
  have hmin:min (a.drop at_.toNat).length ((t+1+(rs.length:Int)+(bd.length:Int)).toNat - t.toNat)=(1+(rs.length:Int)+(bd.length:Int)).toNat:=by
   rw [QH];omega
  simp only [ak]
  refine ⟨b0,hlt',trivial,b0,by omega,by omega,b0,by omega,by omega,by omega,by omega,by omega,by omega,by omega,by omega,by omega,by omega,by omega,
   ⟨by omega,by omega,trivial,by omega,rfl,?_⟩,fun ⟨w',⟨p1,p2⟩,k⟩ ⟨c0,c1,c2,c3,c4,c5⟩=>⟨fun hk=>?_,fun hk=>?_⟩⟩
  ·rw [hmin,howd]
   have ht1:w.take t.toNat=S++G:=by
    rw [b3,SL,QG (by omega),List.take_replicate,hgd];congr 2;omega
   have ht2:w.drop (t.toNat+(1+(rs.length:Int)+(bd.length:Int)).toNat)=List.replicate ((a.length:Int) - (t+(1+(rs.length:Int)+(bd.length:Int)))).toNat 0:=by
    rw [b3,Sh,QX (by omega),Q0,List.drop_replicate];congr 1;omega
   rw [ht1,ht2];simp [List.append_assoc]
  ·have hk:k<(rs.length:Int):=tM hk;simp only at c0 c1 c2 c3 c4 c5 |-;rw [bI (0:Int) c0 hk] at c4 c5;have hsn:=a8 (0:Int) c0 hk;rw [hsn,Rg];generalize rs.getD k.toNat 0=x at *
   have hA:(S++(G++a.getD at_.toNat 0::(rs.take k.toNat).map (kS keep to))).length=p1+(1+k).toNat:=by
    simp only [KK,HN,Q3,QD];omega
   have hw':w'.length=a.length:=by
    rw [c5];simp only [KK,HN,Q3,QD,QH,QV];omega
   rw [Rf] at c5;have hget:w'.getD (p1+(1+k).toNat) 0=x:=by rw [c5]; exact Oj hA.symm
   have hset:∀ y,w'.set (p1+(1+k).toNat) y=(S++(G++a.getD at_.toNat 0::(rs.take k.toNat).map (kS keep to)))++y::(rs.drop (k+1).toNat++(bd++List.replicate ((a.length:Int) - (t+(1+(rs.length:Int)+(bd.length:Int)))).toNat 0)):=fun y=>by
    rw [c5]; exact pZ y hA.symm
   rw [hget,hset,Mq hP.rs hk0];have hg1:fq keep to (x::rs.drop (k+1).toNat)=((lI keep to x).isSome&&fq keep to (rs.drop (k+1).toNat)):=rfl;rw [hg1] at c4;refine ⟨by omega,by omega,by omega,by omega,fun hn=>?_,fun hn=>⟨by omega,by omega,by omega,by omega,by omega,⟨by omega,by omega,c2,c3,?_,?_⟩,by omega⟩⟩
   ·have hn:(lI keep to x).isSome=false:=by simpa using hn
    rw [hn,SA] at c4;rw [<- c4,SA] at b2;rw [if_neg (by rw [<- b2]; simp)];exact ⟨rfl,rfl,rfl,trivial⟩
   ·have hn:(lI keep to x).isSome=true:=by simpa using hn
    rw [hn,RN] at c4;exact c4
   ·have hm:[x].map (kS keep to)=[(lI keep to x).getD 0]:=rfl;rw [hm];simp [List.append_assoc]
  ·have hk:¬ k<(rs.length:Int):=uZ hk;simp only at c0 c1 c2 c3 c4 c5 |-;rw [cE hk] at c4 c5;rw [bT hk] at c5;have hg0:fq keep to []=true:=rfl;rw [hg0] at c4;rw [<- c4,RN] at b2;refine ⟨by omega,⟨by omega,by omega,b2,?_⟩,by omega⟩;rw [c5];simp [List.append_assoc]
 ·have hge:¬ i<(keep.length:Int):=uZ hge;simp only at b0 b1 b2 b3 |-;rw [cE hge,Tb] at b2;rw [if_pos b2.symm];rw [show i.toNat=keep.length by omega] at b3;have hul:=lc to hP keep.length (QI _);have hE0:=cq pinned hP.pre keep.length (QI _);have hen:=hP.en
  have hwl:w.length=a.length:=by
   rw [b3,KK,QV];omega
  have hW:mI a keep to pinned long g=g.foldl jG w:=by
   rw [b3];rfl
  rw [hW];refine ⟨trivial,⟨by omega,by omega,trivial,rfl⟩,fun ⟨w',j⟩ ⟨d0,d1,d2,d3⟩=>⟨fun hj=>?_,fun hj=>?_⟩⟩
  ·have hj:j<(g.length:Int):=tM hj;simp only at d0 d1 d2 d3 |-;have hr:=hgi _ (aI ((0,0):db) d0 hj);have hsn:=a8 ((0,0):db) d0 hj;rw [hsn,Tl,<- d3];generalize g.getD j.toNat (0,0)=r at *
   have hh:af (0,r.2 - 1,0,true)=0:=by
    simp [af,aa];omega
   rw [if_pos hh,R4];simp only [ak];exact ⟨d0,hj,by omega,by omega,trivial,hr.1,by omega,by omega,by first | trivial | rfl,by omega,⟨by omega,by omega,d2,rfl⟩,by omega⟩
  ·have hj:¬ j<(g.length:Int):=uZ hj;simp only at d3 |-;rw [bT hj] at d3;exact ⟨d3,trivial,trivial,trivial⟩
theorem Md:Lv.ok Tryz.prog 219:=aD (ann:=Ni) (ae J3 (ae nU (ae D1 (ae jc ap)))) Tryz.func219 (by kernel_rfl) IT
end
section
theorem KQ {a:List Int} {at_ k:Int} (h0:0<=k) (h1:k<(hY a at_).length) (l2:((hY a at_).length:Int)=(eX a at_).2.1) (l3:0<=at_) (l5:0<=(eX a at_).1) :
  a.getD (at_+1+(eX a at_).1+k).toNat 0=(hY a at_).getD k.toNat 0:=by
 rw [l2] at h1;unfold hY iX;simp only;generalize (eX a at_).1=r at *;generalize (eX a at_).2.1=b at *;rw [List.getD_eq_getElem?_getD (l:=a),List.getD_eq_getElem?_getD,List.getElem?_drop,List.getElem?_take,if_pos (by omega)];congr 2;omega
def Dn (a keep pinned:List Int):List Int×Bool :=
 if (keep.all fun at_=>fq keep (aA keep (keep.map (dw (ac a).1)) pinned) (bP a at_))=true then
  (mI a keep (aA keep (keep.map (dw (ac a).1)) pinned) pinned (keep.map (dw (ac a).1)) (ck a.length keep (keep.map (dw (ac a).1)) pinned),true)
 else ([],false)
end
section
def Be:Go.Shelf.Ren:=⟨fun | 189=>33 | 125=>105 | 257=>104 | 128=>183 | 129=>184 | 294=>174 | 295=>175 | 296=>176 | 297=>177 | 298=>178 | 299=>179 | 216=>180 | 300=>181 | 301=>182 | 328=>230 | 329=>231 | 330=>232 | 331=>233 | 332=>234 | 215=>235 | 343=>257 | n=>n,fun | 28=>31 | 3=>3 | 46=>182 | 0=>0 | 51=>267 | 53=>45 | 4=>4 | 183=>260 | 182=>259 | 131=>98 | 5=>5 | 9=>9 | 218=>306 | 222=>110 | 228=>330 | 229=>331 | n=>n,fun | n=>n⟩
theorem Eo:Go.Proofs.Lays.n189 Tryz.prog Be where
 mixed:=by kernel_rfl
 f125:=Tryz.func105.trans (congrArg some (by kernel_rfl))
 f128:=Tryz.func183.trans (congrArg some (by kernel_rfl))
 f129:=Tryz.func184.trans (congrArg some (by kernel_rfl))
 f189:=Tryz.func33.trans (congrArg some (by kernel_rfl))
 f215:=Tryz.func235.trans (congrArg some (by kernel_rfl))
 f216:=Tryz.func180.trans (congrArg some (by kernel_rfl))
 f257:=Tryz.func104.trans (congrArg some (by kernel_rfl))
 f294:=Tryz.func174.trans (congrArg some (by kernel_rfl))
 f295:=Tryz.func175.trans (congrArg some (by kernel_rfl))
 f296:=Tryz.func176.trans (congrArg some (by kernel_rfl))
 f297:=Tryz.func177.trans (congrArg some (by kernel_rfl))
 f298:=Tryz.func178.trans (congrArg some (by kernel_rfl))
 f299:=Tryz.func179.trans (congrArg some (by kernel_rfl))
 f300:=Tryz.func181.trans (congrArg some (by kernel_rfl))
 f301:=Tryz.func182.trans (congrArg some (by kernel_rfl))
 f328:=Tryz.func230.trans (congrArg some (by kernel_rfl))
 f329:=Tryz.func231.trans (congrArg some (by kernel_rfl))
 f330:=Tryz.func232.trans (congrArg some (by kernel_rfl))
 f331:=Tryz.func233.trans (congrArg some (by kernel_rfl))
 f332:=Tryz.func234.trans (congrArg some (by kernel_rfl))
 f343:=Tryz.func257.trans (congrArg some (by kernel_rfl))
 t0:=SW
 a0:=Tryz.isAgg0
 z0:=Tryz.sizeOf0
 v0:=S9
 t3:=SV
 a3:=Tryz.isAgg3
 z3:=Tryz.sizeOf3
 v3:=S8
 t4:=Sz
 a4:=Tryz.isAgg4
 z4:=Tryz.sizeOf4
 v4:=S7
 t5:=Tryz.underlying5
 a5:=Tryz.isAgg5
 z5:=Tryz.sizeOf5
 v5:=Tryz.zeroValue5
 t9:=Tryz.underlying9
 a9:=Tryz.isAgg9
 z9:=Tryz.sizeOf9
 v9:=Tryz.zeroValue9
 t28:=Tryz.underlying31
 a28:=Tryz.isAgg31
 z28:=Tryz.sizeOf31
 v28:=Tryz.zeroValue31
 t46:=Tf
 a46:=Tryz.isAgg182
 z46:=Tryz.sizeOf182
 v46:=Ti
 t51:=Te
 a51:=Tryz.isAgg267
 z51:=Tryz.sizeOf267
 v51:=Th
 t53:=Tj
 a53:=Tryz.isAgg45
 z53:=Tryz.sizeOf45
 v53:=Tryz.zeroValue45
 t131:=Tryz.underlying98
 a131:=Tryz.isAgg98
 z131:=Tryz.sizeOf98
 v131:=Tryz.zeroValue98
 t182:=Tryz.underlying259
 a182:=Tryz.isAgg259
 z182:=Tryz.sizeOf259
 v182:=Tryz.zeroValue259
 t183:=Tryz.underlying260
 a183:=Tryz.isAgg260
 z183:=Tryz.sizeOf260
 v183:=Tryz.zeroValue260
 t218:=Tryz.underlying306
 a218:=Tryz.isAgg306
 z218:=Tryz.sizeOf306
 v218:=Tryz.zeroValue306
 t222:=Tryz.underlying110
 a222:=Tryz.isAgg110
 z222:=Tryz.sizeOf110
 v222:=Tryz.zeroValue110
 t228:=Tryz.underlying330
 a228:=Tryz.isAgg330
 z228:=Tryz.sizeOf330
 v228:=Tryz.zeroValue330
 t229:=Tryz.underlying331
 a229:=Tryz.isAgg331
 z229:=Tryz.sizeOf331
 v229:=Tryz.zeroValue331
def tY:Go.Shelf.Ren:=⟨fun | 20=>95 | n=>n,fun | 22=>31 | 3=>3 | 4=>4 | 0=>0 | n=>n,fun | n=>n⟩
theorem tI:Go.Proofs.Lays2.n20 Tryz.prog tY where
 mixed:=by kernel_rfl
 f20:=Tryz.func95.trans (congrArg some (by kernel_rfl))
 t0:=SW
 a0:=Tryz.isAgg0
 z0:=Tryz.sizeOf0
 v0:=S9
 t3:=SV
 a3:=Tryz.isAgg3
 z3:=Tryz.sizeOf3
 v3:=S8
 t4:=Sz
 a4:=Tryz.isAgg4
 z4:=Tryz.sizeOf4
 v4:=S7
 t22:=Tryz.underlying31
 a22:=Tryz.isAgg31
 z22:=Tryz.sizeOf31
 v22:=Tryz.zeroValue31
 i3:=by kernel_rfl
theorem AP {p:PH}:∀ {xs:List Int} {l:List Value},aN (ty_I.holds p) xs l->l=xs.map (Value.int .i64)/\∀ x∈xs,ak .i64 x
 | [],l,h=>⟨h,by simp⟩
 | x::xs,l,⟨c1,c2,e,h1,h2⟩=>by
  obtain ⟨e2,h3⟩:=AP h2;obtain ⟨e1,h4⟩:=h1;subst e1 e2 e;refine ⟨rfl,fun y hy=>?_⟩;rcases Qs.1 hy with rfl | hy
  ·exact h4
  ·exact h3 y hy
theorem rK {p:PH}:∀ {xs:List Int},(∀ x∈xs,ak .i64 x)->aN (ty_I.holds p) xs (xs.map (Value.int .i64))
 | [],_=>rfl
 | x::xs,h=>⟨[.int .i64 x],xs.map (Value.int .i64),rfl,⟨rfl,h x (by simp)⟩,rK (fun y hy=>h y (by simp [hy]))⟩
def eC (xs:List Int):List Int:=xs.mergeSort fun x y=>decide (x<=y)
def CT:RowFn:={ e:=3,T:=ty_I,Ts:=[],out:=false,pre:=fun _ _ _=>True,F:=fun xs _ _=>eC xs }
theorem vT:CT.ok Tryz.prog 33:=by
 intro p w v (xs:List Int) l v2 (ys:List Int) l2 vs x _ _ hA hown hl hbig hp _ _ _ hargs _;have hvs:vs=[]:=hargs;subst hvs;obtain ⟨el,hin⟩:=AP hl;have hown':w.ownsRow 0 3 1 v xs.length l:=hown;have h8:xs.length * 8<=aK:=hbig;have hlen:(eC xs).length=xs.length:=List.length_mergeSort _;rcases hown'.2 with ⟨rfl,h0⟩ | ⟨g,cap,cur,rfl,_,hb,h1,h2,h3,h4⟩
 ·have hx:xs=[]:=QF h0;subst hx;refine (Any.slices_Sort_int_none Eo none 0 w).mono ?_;rintro e w' ⟨rfl,rfl⟩;have e0:CT.F ([]:List Int) ys x=([]:List Int):=by show eC []=[]; simp [eC]
  rw [e0];exact ⟨_,l,rfl,fun _=>rfl,World.grownBy.refl _ _,hown,hl,hbig,fun b h=>.inl h⟩
 ·have hg:g<w.heap.size:=(Array.getElem?_eq_some_iff.1 hb).1;refine (Any.slices_Sort_int Eo g 0 cap xs w (holds_of_blockI hb (by rw [R3] at h4; rw [h4,el])) hg (by simp only [aK] at h8; omega)).mono ?_;rintro e w' ⟨rfl,n,os,rfl⟩;refine ⟨_,(eC xs).map (Value.int .i64),rfl,fun _=>rfl,grownBy_sortedI _,?_,rK (fun y hy=>hin y (List.mem_mergeSort.1 hy)),?_,fun b h=>.inl h⟩
  ·have:=ownsRow_sortedI (n:=n) (os:=os) (ss:=xs) (ts:=eC xs) hlen (Re _) hb h1 h2 h3;show World.ownsRow _ 0 3 1 _ (eC xs).length _;rw [hlen];exact this
  ·show (eC xs).length * 8<=aK;rw [hlen];exact h8
theorem kZ (xs:List Int):(Lib.compact xs).length<=xs.length:=by
 unfold Lib.compact Lib.compactUpTo;rw [Q3];refine Ra (SR _ _) ?_;simp
theorem tQ (xs:List Int) (y:Int) (hy:y∈Lib.compact xs):y∈xs:=by
 unfold Lib.compact Lib.compactUpTo at hy;obtain ⟨j,hj,rfl⟩:=QR.1 hy
 have hj2:j<xs.length:=by
  have:=(Rx.1 hj).1;simpa using this
 simp [hj2]
def fV (xs:List Int):List Int:=Lib.compact xs
def Dh:RowFn:={ e:=3,T:=ty_I,Ts:=[],out:=true,pre:=fun _ _ _=>True,F:=fun xs _ _=>fV xs }
theorem tG:Dh.ok Tryz.prog 95:=by
 intro p w v (xs:List Int) l v2 (ys:List Int) l2 vs x _ _ hA hown hl hbig hp _ _ _ hargs _;have hvs:vs=[]:=hargs;subst hvs;obtain ⟨el,hin⟩:=AP hl;have hown':w.ownsRow 0 3 1 v xs.length l:=hown;have h8:xs.length * 8<=aK:=hbig;have hle:(Lib.compact xs).length<=xs.length:=kZ xs;rcases hown'.2 with ⟨rfl,h0⟩ | ⟨g,cap,cur,rfl,_,hb,h1,h2,h3,h4⟩
 ·have hx:xs=[]:=QF h0;subst hx;refine (Any.slices_Compact_int_empty tI none 0 w).mono ?_;rintro e w' ⟨rfl,rfl⟩;exact ⟨_,l,rfl,fun _=>rfl,World.grownBy.refl _ _,hown,hl,by show (Lib.compact ([]:List Int)).length * 8<=aK; simp [Lib.compact,Lib.compactUpTo],fun b h=>.inl h⟩
 ·have hg:g<w.heap.size:=(Array.getElem?_eq_some_iff.1 hb).1;have hmem:∀ y∈Lib.compact xs,ak .i64 y:=fun y hy=>hin y (tQ xs y hy)
  refine (Any.slices_Compact_int tI g 0 cap xs w (holds_of_blockI hb (by rw [R3] at h4; rw [h4,el])) (by simp only [aK] at h8; omega) h1).mono ?_;rintro e w' ⟨rfl,q,rfl⟩;refine ⟨_,(Lib.compact xs).map (Value.int .i64),rfl,fun h=>(by cases h),?_,?_,rK hmem,?_,fun b h=>.inl h⟩
  ·have:=grownBy_sortedI (w:=w) (g:=g) (n:=q) (os:=#[]) (Lib.compact xs++List.replicate (xs.length - (Lib.compact xs).length) 0).toArray;rw [Sort.grow_empty] at this;exact this
  ·have hh:=heap_sortedI (w:=w) (g:=g) (n:=q) (os:=#[]) (Lib.compact xs++List.replicate (xs.length - (Lib.compact xs).length) 0).toArray hb;rw [Sort.grow_empty] at hh
   have hrow:World.ownsRow (Sort.putRow (Value.int .i64) (Sort.ahead w q) g 0 (Lib.compact xs++List.replicate (xs.length - (Lib.compact xs).length) 0).toArray) 0 3 1
     (.slice (some ⟨g,0,none⟩) (Lib.compact xs).length cap) (Lib.compact xs).length ((Lib.compact xs).map (Value.int .i64)):=by
    refine ⟨by simp,.inr ⟨g,cap,_,rfl,Re _,hh,Ra hle h1,h2,by simp [Sort.putCells,h3],?_⟩⟩;have ht:=take_putCellsI cur (Lib.compact xs++List.replicate (xs.length - (Lib.compact xs).length) 0) (by simp; omega);have ht2:=congrArg (List.take (Lib.compact xs).length) ht;rw [R2,RO (by simp)] at ht2;rw [R3,ht2];simp
   exact hrow
  ·show (Lib.compact xs).length * 8<=aK;omega
end
section
def dq (v n:Int):Bool:=decide (-1<=v)&&decide (v<n)
def aG (r:List Int) (n:Int):Int:=if n<0\/256<n then 4 else if 32<r.length then 2 else if (r.any fun v=>!dq v n)=true then 4 else 0
def bt (r:List Int) (n:Int):List Int×Int :=
 if aG r n≠0 then ([],aG r n) else (fV (eC (r.filter fun v=>!decide (v<0))),0)
def om (to:List Int) (v:Int):Int:=if 0<=v then to.getD v.toNat 0 else v
def bo (r:List Int) (n:Int) (to:List Int):List Int×Int :=
 if aG r n≠0 then ([],aG r n) else if (to.length:Int)≠n then ([],3) else if (to.any fun v=>!dq v n)=true then ([],4) else (r.map (om to),0)
theorem pL {r:List Int} {n v:Int} (h:(r.any fun v=>!dq v n)=false) (hv:v∈r):-1<=v/\v<n:=by
 have:=SQ.1 h v hv;simpa [dq] using this
theorem iM {r:List Int} {n:Int} (h:aG r n=0):(r.any fun v=>!dq v n)=false:=by
 unfold aG at h;cases hr:r.any fun v=>!dq v n
 ·rfl
 ·rw [hr] at h;simp only [if_true] at h;split at h
  ·omega
  ·split at h <;> omega
theorem jo {α:Type} (f:α->Bool):∀ (l:List α) (k:Int),0<=k->(ag f k l=-1/\l.filter (fun x=>!f x)=l) \/
  ∃ j:Nat,ag f k l=k+j/\j<l.length/\(l.take (j+1)).filter (fun x=>!f x)=l.take j
 | [],k,_=>.inl ⟨rfl,rfl⟩
 | x::l,k,hk=>by
  simp only [ag];cases hx:f x
  ·rw [if_neg (by simp)];rcases jo f l (k+1) (by omega) with ⟨h1,h2⟩ | ⟨j,h1,h2,h3⟩
   ·exact .inl ⟨h1,by rw [Rj (by simp [hx]),h2]⟩
   ·exact .inr ⟨j+1,by omega,by simp; omega,by rw [RC,Rj (by simp [hx]),h3,RC]⟩
  ·rw [if_pos rfl];exact .inr ⟨0,by omega,by simp,by simp [hx]⟩
theorem M6 {α:Type} (d:α) {p:α->Bool} {xs row:List α} {i j:Nat} (hij:i<j) (hj:j<xs.length) (hl:row.length=xs.length) (ht:row.take i=(xs.take j).filter p) (hd:row.drop j=xs.drop j) :
  (p (row.getD j d)=true->(row.set i (row.getD j d)).take (i+1)=(xs.take (j+1)).filter p/\(row.set i (row.getD j d)).drop (j+1)=xs.drop (j+1)) /\
  (p (row.getD j d)=false->row.take i=(xs.take (j+1)).filter p/\row.drop (j+1)=xs.drop (j+1)):=by
 have he:row.getD j d=xs.getD j d:=by
  have:=congrArg (fun l=>l.getD 0 d) hd;simpa [List.getD,List.getElem?_drop] using this
 have h1:row.drop (j+1)=xs.drop (j+1):=by
  have:=congrArg (List.drop 1) hd;simpa [RM,Nat.add_comm] using this
 have hx:xs.take (j+1)=xs.take j++[xs.getD j d]:=by
  rw [Q4 hj];simp [List.getD,hj]
 rw [he,hx,SO];refine ⟨fun hp=>⟨?_,?_⟩,fun hp=>⟨?_,h1⟩⟩
 ·rw [List.take_set,<- ht,Rj hp,List.filter_nil];have hi:i<row.length:=by omega
  rw [Q4 hi,R5 _ _ (by simp; omega)];simp [RO (Nat.le_of_lt hi)]
 ·rw [List.drop_set_of_lt (by omega),h1]
 ·rw [ht,RF (by rw [hp]; simp)];simp
def AJ:Spec:={ Ts:=[.arr ty_I],Rs:=[.own 3 ty_I],pre:=fun _=>True,F:=fun (x:List Int)=>x }
def qx:Prop :=
  ∀ (x:List Int),(x.length * 8<=aK/\∀ (x_1:Int),x_1∈x->ak .i64 x_1)->True->(x=([]:List Int)->([]:List Int)=x/\True)/\(True->(0+x.length) * 8<=aK/\([]:List Int)++x=x/\True)
theorem xC:qx:=by
 unfold qx;intro x ⟨hb,_⟩ _;simp [hb]
theorem cg:AJ.ok Tryz.prog 36:=aD (ann:=cF) ap Tryz.func36 (by kernel_rfl) xC
def Je:Spec:={ Ts:=[ty_I,ty_I],Rs:=[.dat .bool],pre:=fun _=>True,F:=fun ((v,n):Int×Int)=>dq v n }
def yF:Prop :=
  ∀ (x:Int×Int),ak .i64 x.1/\ak .i64 x.2->True->(decide ((-1)<=x.1)&&decide (x.1<x.2))=dq x.1 x.2/\True
theorem Fp:yF:=by
 unfold yF;intro ⟨v,n⟩ _ _;simp only [dq]
 grind
theorem zf:Je.ok Tryz.prog 209:=aD (ann:=cF) ap Tryz.func209 (by kernel_rfl) Fp
def Jr:Spec:={ Ts:=[ty_I,.ref ty_I],Rs:=[.dat .bool],pre:=fun _=>True,F:=fun ((v,n):Int×Int)=>!dq v n }
def yS:Prop :=
  ∀ (x:Int×Int),ak .i64 x.1/\ak .i64 x.2->True->True/\(!dq x.1 x.2)=!dq x.1 x.2/\True
theorem FD:yS:=by
 unfold yS;intro ⟨v,n⟩ _ _;simp
theorem J2:Jr.ok Tryz.prog 208:=aD (ann:=cF) (ae zf ap) Tryz.func208 (by kernel_rfl) FD
def Jq:Spec:={ Ts:=[ty_I,.ref ty_I],Rs:=[.dat .bool],pre:=fun _=>True,F:=fun ((v,n):Int×Int)=>!dq v n }
def yR:Prop :=
  ∀ (x:Int×Int),ak .i64 x.1/\ak .i64 x.2->True->True/\(!dq x.1 x.2)=!dq x.1 x.2/\True
theorem FC:yR:=by
 unfold yR;intro ⟨v,n⟩ _ _;simp
theorem J1:Jq.ok Tryz.prog 220:=aD (ann:=cF) (ae zf ap) Tryz.func220 (by kernel_rfl) FC
def Jp:Spec:={ Ts:=[ty_I],Rs:=[.dat .bool],pre:=fun _=>True,F:=fun (v:Int)=>decide (v<0) }
def yQ:Prop :=
  ∀ (x:Int),ak .i64 x->True->decide (x<0)=decide (x<0)/\True
theorem FB:yQ:=by
 unfold yQ;intro v _ _;simp
theorem J0:Jp.ok Tryz.prog 251:=aD (ann:=cF) ap Tryz.func251 (by kernel_rfl) FB
def AC:Spec:={ Ts:=[.arr ty_I,ty_I],Rs:=[.dat ty_I],pre:=fun _=>True,F:=fun ((r,n):List Int×Int)=>aG r n }
def qn:Prop :=
  ∀ (x:List Int×Int),(x.1.length * 8<=aK/\∀ (x_1:Int),x_1∈x.1->ak .i64 x_1)/\ak .i64 x.2->True->((decide (x.2<0)||decide (256<x.2))=true->4=aG x.1 x.2/\True)/\((decide (x.2<0)||decide (256<x.2))=false->(decide (32<(x.1.length:Int))=true->2=aG x.1 x.2/\True)/\(decide (32<(x.1.length:Int))=false->(∀ (s:Int),s∈x.1->(fun (_:Int)=>True,fun (x_1:Int)=>!dq x_1 x.2).1 s)/\((x.1.any fun (x_1:Int)=>!dq x_1 x.2)=true->4=aG x.1 x.2/\True)/\((x.1.any fun (x_1:Int)=>!dq x_1 x.2)=false->0=aG x.1 x.2/\True)))
theorem xv:qn:=by
 unfold qn;intro ⟨r,n⟩ ⟨⟨hb,_⟩,hn⟩ _;simp only [aG]
 grind
theorem mf:AC.ok Tryz.prog 149:=aD (ann:=cF) (ae A9 (ae J2 ap)) Tryz.func149 (by kernel_rfl) xv
def B2:Nat->Option LoopGen
 | 3000250=>some cY
 | 3000251=>some cY
 | 25100000005=>some { rd:=[.own 0 3 ty_I],wr:=[0],A:=fun (xs:List Int)=>{ cs:=[.own 0 3 ty_I,.dat 5 ty_I,.dat 6 ty_I],inv:=fun ((row,i,j):List Int×Int×Int)=>0<=i/\i<j/\j<=xs.length/\row.length=xs.length/\row.take i.toNat=(xs.take j.toNat).filter (fun v=>!decide (v<0))/\row.drop j.toNat=xs.drop j.toNat,mu:=fun ((_,_,j):List Int×Int×Int)=>(xs.length - j).toNat } }
 | _=>none
def AB:Spec:={ Ts:=[.arr ty_I,ty_I],Rs:=[.own 3 ty_I,.dat ty_I],pre:=fun _=>True,F:=fun ((r,n):List Int×Int)=>bt r n }
def qm:Prop :=
  ∀ (x:List Int×Int),(x.1.length * 8<=aK/\∀ (x_1:Int),x_1∈x.1->ak .i64 x_1)/\ak .i64 x.2->True->True/\(decide (aG x.1 x.2≠0)=true->([]:List Int)=(bt x.1 x.2).1/\aG x.1 x.2=(bt x.1 x.2).2/\True)/\(decide (aG x.1 x.2≠0)=false->True/\∀ (_:Array Value),(∀ (s:Int),s∈x.1->(fun (_:Int)=>True,fun (x:Int)=>decide (x<0)).1 s)/\(decide (ag (fun (x:Int)=>decide (x<0)) 0 x.1=(-1))=true->True/\True/\fV (eC x.1)=(bt x.1 x.2).1/\0=(bt x.1 x.2).2/\True)/\(decide (ag (fun (x:Int)=>decide (x<0)) 0 x.1=(-1))=false->ak .i64 (ag (fun (x:Int)=>decide (x<0)) 0 x.1+1)/\(0<=ag (fun (x:Int)=>decide (x<0)) 0 x.1/\ag (fun (x:Int)=>decide (x<0)) 0 x.1<ag (fun (x:Int)=>decide (x<0)) 0 x.1+1/\ag (fun (x:Int)=>decide (x<0)) 0 x.1+1<=(x.1.length:Int)/\x.1.length=x.1.length/\List.take (ag (fun (x:Int)=>decide (x<0)) 0 x.1).toNat x.1=List.filter (fun (v:Int)=>!decide (v<0)) (List.take (ag (fun (x:Int)=>decide (x<0)) 0 x.1+1).toNat x.1)/\List.drop (ag (fun (x:Int)=>decide (x<0)) 0 x.1+1).toNat x.1=List.drop (ag (fun (x:Int)=>decide (x<0)) 0 x.1+1).toNat x.1)/\∀ (x_1:List Int×Int×Int),0<=x_1.2.1/\x_1.2.1<x_1.2.2/\x_1.2.2<=(x.1.length:Int)/\x_1.1.length=x.1.length/\List.take x_1.2.1.toNat x_1.1=List.filter (fun (v:Int)=>!decide (v<0)) (List.take x_1.2.2.toNat x.1)/\List.drop x_1.2.2.toNat x_1.1=List.drop x_1.2.2.toNat x.1->(decide (x_1.2.2<(x_1.1.length:Int))=true->0<=x_1.2.2/\x_1.2.2<(x_1.1.length:Int)/\x_1.2.2.toNat<x_1.1.length/\∀ (_:Array Value),((!decide (x_1.1.getD x_1.2.2.toNat (0:Int)<0))=true->0<=x_1.2.1/\x_1.2.1<(x_1.1.length:Int)/\x_1.2.1.toNat<x_1.1.length/\ak .i64 (x_1.2.1+1)/\ak .i64 (x_1.2.2+1)/\(0<=x_1.2.1+1/\x_1.2.1+1<x_1.2.2+1/\x_1.2.2+1<=(x.1.length:Int)/\(x_1.1.set x_1.2.1.toNat (x_1.1.getD x_1.2.2.toNat 0)).length=x.1.length/\List.take (x_1.2.1+1).toNat (x_1.1.set x_1.2.1.toNat (x_1.1.getD x_1.2.2.toNat 0))=List.filter (fun (v:Int)=>!decide (v<0)) (List.take (x_1.2.2+1).toNat x.1)/\List.drop (x_1.2.2+1).toNat (x_1.1.set x_1.2.1.toNat (x_1.1.getD x_1.2.2.toNat 0))=List.drop (x_1.2.2+1).toNat x.1)/\((x.1.length:Int) - (x_1.2.2+1)).toNat<((x.1.length:Int) - x_1.2.2).toNat)/\((!decide (x_1.1.getD x_1.2.2.toNat (0:Int)<0))=false->ak .i64 (x_1.2.2+1)/\(0<=x_1.2.1/\x_1.2.1<x_1.2.2+1/\x_1.2.2+1<=(x.1.length:Int)/\x_1.1.length=x.1.length/\List.take x_1.2.1.toNat x_1.1=List.filter (fun (v:Int)=>!decide (v<0)) (List.take (x_1.2.2+1).toNat x.1)/\List.drop (x_1.2.2+1).toNat x_1.1=List.drop (x_1.2.2+1).toNat x.1)/\((x.1.length:Int) - (x_1.2.2+1)).toNat<((x.1.length:Int) - x_1.2.2).toNat))/\(decide (x_1.2.2<(x_1.1.length:Int))=false->0<=x_1.2.1/\x_1.2.1<=(x_1.1.length:Int)/\x_1.2.1.toNat+(x_1.1.length - x_1.2.1.toNat)<=x_1.1.length/\0<=x_1.2.1/\x_1.2.1<=(↑(List.take x_1.2.1.toNat x_1.1++(List.replicate (x_1.1.length - x_1.2.1.toNat) (0:Int)++List.drop (x_1.2.1.toNat+(x_1.1.length - x_1.2.1.toNat)) x_1.1)).length:Int)/\True/\True/\fV (eC (List.take x_1.2.1.toNat (List.take x_1.2.1.toNat x_1.1++(List.replicate (x_1.1.length - x_1.2.1.toNat) (0:Int)++List.drop (x_1.2.1.toNat+(x_1.1.length - x_1.2.1.toNat)) x_1.1))))=(bt x.1 x.2).1/\0=(bt x.1 x.2).2/\True)))
theorem xu:qm:=by
 unfold qm;intro ⟨r,n⟩ ⟨⟨hb,_⟩,_⟩ _;unfold aK at hb;simp only at hb |-;refine ⟨trivial,fun h=>?_,fun h=>⟨trivial,fun _=>⟨fun _ _=>trivial,fun h2=>?_,fun h2=>?_⟩⟩⟩
 ·simp only [bt];rw [if_pos (tM h)];exact ⟨rfl,rfl,trivial⟩
 ·have h2:=tM h2;refine ⟨trivial,trivial,?_⟩;simp only [bt];rw [if_neg (uZ h)];rcases jo (fun x:Int=>decide (x<0)) r 0 (by omega) with ⟨_,h3⟩ | ⟨j,h3,_⟩
  ·rw [h3];exact ⟨rfl,rfl,trivial⟩
  ·omega
 have h2:=uZ h2;rcases jo (fun x:Int=>decide (x<0)) r 0 (by omega) with ⟨h3,_⟩ | ⟨j,h3,h4,h5⟩
 ·exact absurd h3 h2
 rw [h3];refine ⟨by simp only [ak]; omega,⟨by omega,by omega,by omega,trivial,?_,trivial⟩,fun ⟨row,i,j⟩ ⟨k0,k1,k2,k3,k4,k5⟩=>⟨fun hlt=>?_,fun hge=>?_⟩⟩
 ·rw [show (0+(j:Int)+1).toNat=j+1 by omega,show (0+(j:Int)).toNat=j by omega,h5]
 ·simp only at k0 k1 k2 k3 k4 k5 hlt |-;have hlt:=tM hlt;have hs:=M6 (0:Int) (p:=fun v=>!decide (v<0)) (xs:=r) (row:=row) (i:=i.toNat) (j:=j.toNat) (by omega) (by omega) k3 k4 k5;refine ⟨by omega,by omega,by omega,fun _=>⟨fun hp=>?_,fun hp=>?_⟩⟩
  ·obtain ⟨q1,q2⟩:=hs.1 hp;refine ⟨by omega,by omega,by omega,by simp only [ak]; omega,by simp only [ak]; omega,⟨by omega,by omega,by omega,by simpa using k3,?_,?_⟩,by omega⟩
   ·rw [show (i+1).toNat=i.toNat+1 by omega,show (j+1).toNat=j.toNat+1 by omega];exact q1
   ·rw [show (j+1).toNat=j.toNat+1 by omega];exact q2
  ·obtain ⟨q1,q2⟩:=hs.2 hp;refine ⟨by simp only [ak]; omega,⟨by omega,by omega,by omega,k3,?_,?_⟩,by omega⟩
   ·rw [show (j+1).toNat=j.toNat+1 by omega];exact q1
   ·rw [show (j+1).toNat=j.toNat+1 by omega];exact q2
 ·simp only at k0 k1 k2 k3 k4 k5 hge |-;have hge:=uZ hge;have hj:j.toNat=r.length:=by omega
  have e1:List.take i.toNat (List.take i.toNat row++(List.replicate (row.length - i.toNat) 0++List.drop (i.toNat+(row.length - i.toNat)) row))=List.take i.toNat row:=by
   rw [QY (by simp; omega),R2,Nat.min_self]
  refine ⟨by omega,by omega,by omega,by omega,by simp; omega,trivial,trivial,?_⟩;rw [e1,k4,hj,QG (QI _)];simp only [bt];rw [if_neg (uZ h)];exact ⟨rfl,rfl,trivial⟩
theorem A6:AB.ok Tryz.prog 211:=aD (ann:=B2) (ae mf (ae cg (ae J0 (ae D4 (kF vT (kF tG ap)))))) Tryz.func211 (by kernel_rfl) xu
def Fa:Nat->Option LoopGen
 | 10=>some { rd:=[.dat 2 (.arr ty_I),.dat 0 (.arr ty_I)],wr:=[9,30],A:=fun ((to,r):List Int×List Int)=>{ cs:=[.own 9 3 ty_I,.same 30 9,.dat 32 ty_I],inv:=fun ((out,_,i):List Int×Unit×Int)=>0<=i/\i<=r.length/\(∀ v∈r,v<to.length)/\out=(r.take i.toNat).map (om to)++r.drop i.toNat,mu:=fun ((_,_,i):List Int×Unit×Int)=>(r.length - i).toNat } }
 | _=>none
def CU:Spec:={ Ts:=[.arr ty_I,ty_I,.arr ty_I],Rs:=[.own 3 ty_I,.dat ty_I],pre:=fun _=>True,F:=fun ((r,n,to):List Int×Int×List Int)=>bo r n to }
def sR:Prop :=
  ∀ (x:List Int×Int×List Int),((x.1.length * 8<=aK/\∀ (x_1:Int),x_1∈x.1->ak .i64 x_1)/\ak .i64 x.2.1/\x.2.2.length * 8<=aK/\∀ (x_1:Int),x_1∈x.2.2->ak .i64 x_1)->True->True/\(decide (aG x.1 x.2.1≠0)=true->([]:List Int)=(bo x.1 x.2.1 x.2.2).1/\aG x.1 x.2.1=(bo x.1 x.2.1 x.2.2).2/\True)/\(decide (aG x.1 x.2.1≠0)=false->(decide ((x.2.2.length:Int)≠x.2.1)=true->([]:List Int)=(bo x.1 x.2.1 x.2.2).1/\3=(bo x.1 x.2.1 x.2.2).2/\True)/\(decide ((x.2.2.length:Int)≠x.2.1)=false->(∀ (s:Int),s∈x.2.2->(fun (_:Int)=>True,fun (x_1:Int)=>!dq x_1 x.2.1).1 s)/\((x.2.2.any fun (x_1:Int)=>!dq x_1 x.2.1)=true->([]:List Int)=(bo x.1 x.2.1 x.2.2).1/\4=(bo x.1 x.2.1 x.2.2).2/\True)/\((x.2.2.any fun (x_1:Int)=>!dq x_1 x.2.1)=false->True/\((0:Int)<=0/\0<=(x.1.length:Int)/\(∀ (v:Int),v∈x.1->v<(x.2.2.length:Int))/\x.1=List.map (om x.2.2) (List.take (Int.toNat 0) x.1)++List.drop (Int.toNat 0) x.1)/\∀ (x_1:List Int×Unit×Int),0<=x_1.2.2/\x_1.2.2<=(x.1.length:Int)/\(∀ (v:Int),v∈x.1->v<(x.2.2.length:Int))/\x_1.1=List.map (om x.2.2) (List.take x_1.2.2.toNat x.1)++List.drop x_1.2.2.toNat x.1->(decide (x_1.2.2<(x.1.length:Int))=true->0<=x_1.2.2/\x_1.2.2<(x_1.1.length:Int)/\x_1.2.2.toNat<x_1.1.length/\(decide (0<=x_1.1.getD x_1.2.2.toNat 0)=true->0<=x_1.1.getD x_1.2.2.toNat 0/\x_1.1.getD x_1.2.2.toNat 0<(x.2.2.length:Int)/\0<=x_1.2.2/\x_1.2.2<(x_1.1.length:Int)/\x_1.2.2.toNat<x_1.1.length/\ak .i64 (x_1.2.2+1)/\(0<=x_1.2.2+1/\x_1.2.2+1<=(x.1.length:Int)/\(∀ (v:Int),v∈x.1->v<(x.2.2.length:Int))/\x_1.1.set x_1.2.2.toNat (x.2.2.getD (x_1.1.getD x_1.2.2.toNat 0).toNat 0)=List.map (om x.2.2) (List.take (x_1.2.2+1).toNat x.1)++List.drop (x_1.2.2+1).toNat x.1)/\((x.1.length:Int) - (x_1.2.2+1)).toNat<((x.1.length:Int) - x_1.2.2).toNat)/\(decide (0<=x_1.1.getD x_1.2.2.toNat 0)=false->ak .i64 (x_1.2.2+1)/\(0<=x_1.2.2+1/\x_1.2.2+1<=(x.1.length:Int)/\(∀ (v:Int),v∈x.1->v<(x.2.2.length:Int))/\x_1.1=List.map (om x.2.2) (List.take (x_1.2.2+1).toNat x.1)++List.drop (x_1.2.2+1).toNat x.1)/\((x.1.length:Int) - (x_1.2.2+1)).toNat<((x.1.length:Int) - x_1.2.2).toNat))/\(decide (x_1.2.2<(x.1.length:Int))=false->x_1.1=(bo x.1 x.2.1 x.2.2).1/\0=(bo x.1 x.2.1 x.2.2).2/\True))))
theorem zU:sR:=by
 unfold sR;intro ⟨r,n,to⟩ ⟨⟨hb,_⟩,_⟩ _;unfold aK at hb;simp only at hb |-;refine ⟨trivial,fun h=>?_,fun h=>⟨fun h2=>?_,fun h2=>⟨fun _ _=>trivial,fun h3=>?_,fun h3=>⟨trivial,?_,fun ⟨out,_,i⟩ ⟨k0,k1,k2,k3⟩=>?_⟩⟩⟩⟩
 ·simp only [bo];rw [if_pos (tM h)];exact ⟨rfl,rfl,trivial⟩
 ·simp only [bo];rw [if_neg (uZ h),if_pos (tM h2)];exact ⟨rfl,rfl,trivial⟩
 ·simp only [bo];rw [if_neg (uZ h),if_neg (uZ h2),if_pos h3];exact ⟨rfl,rfl,trivial⟩
 ·have h:=uZ h;have h2:=uZ h2;have hf:aG r n=0:=by omega
  have hr:(r.any fun v=>!dq v n)=false:=iM hf;refine ⟨by omega,by omega,fun v hv=>?_,by simp⟩;have:=(pL hr hv).2;omega
 ·simp only at k0 k1 k2 k3 |-;refine ⟨fun hlt=>?_,fun hge=>?_⟩
  ·have hlt:=tM hlt
   have hgd:out.getD i.toNat 0=r.getD i.toNat 0:=by
    rw [k3];simp only [List.getD_eq_getElem?_getD];rw [List.getElem?_append_right (by simp; omega)];simp only [Q3,QD,List.getElem?_drop];congr 2;omega
   have hol:out.length=r.length:=by rw [k3]; simp; omega
   have hrd:r.drop i.toNat=r.getD i.toNat 0::r.drop (i+1).toNat:=bI 0 k0 hlt
   have htk:r.take (i+1).toNat=r.take i.toNat++[r.getD i.toNat 0]:=by
    rw [show (i+1).toNat=i.toNat+1 by omega,Q4 (by omega)];simp [List.getD,show i.toNat<r.length by omega]
   have hset:∀ y,out.set i.toNat y=(r.take i.toNat).map (om to)++y::r.drop (i+1).toNat:=by
    intro y;rw [k3,hrd,R5 _ _ (by simp; omega)];simp [RO (show i.toNat<=r.length by omega)]
   have hmem:=k2 _ (aI (0:Int) k0 hlt);rw [hgd];refine ⟨k0,by omega,by omega,fun hc=>?_,fun hc=>?_⟩
   ·have hc:=tM hc;refine ⟨hc,hmem,k0,by omega,by omega,by simp only [ak]; omega,⟨by omega,by omega,k2,?_⟩,by omega⟩;have e1:om to (r.getD i.toNat 0)=to.getD (r.getD i.toNat 0).toNat 0:=if_pos hc;rw [hset,htk,Rg,<- e1];simp
   ·have hc:=uZ hc;refine ⟨by simp only [ak]; omega,⟨by omega,by omega,k2,?_⟩,by omega⟩;have e1:om to (r.getD i.toNat 0)=r.getD i.toNat 0:=if_neg hc;rw [k3,hrd,htk,Rg,List.map_singleton,e1];simp
  ·have hge:=uZ hge;have hi:i.toNat=r.length:=by omega
   simp only [bo];rw [if_neg (uZ h),if_neg (uZ h2),if_neg (by rw [h3]; simp),k3,hi];simp
theorem tv:CU.ok Tryz.prog 159:=aD (ann:=Fa) (ae mf (ae cg (ae A9 (ae J1 ap)))) Tryz.func159 (by kernel_rfl) zU
def iN (l:List Int) (m:Nat):List Int:=((List.range m).map Int.ofNat).filter (fR l)
end
section
theorem cG {l:List Int} {n:Int}:fR l n=true ↔ n∈l:=by
 unfold fR;rw [RI];exact ⟨fun ⟨x,h1,h2⟩=>tM h2 ▸ h1,fun h=>⟨n,h,by simp⟩⟩
theorem ko (d:Array Int) (hd:∀ i j,i<j->j<d.size->d[i]!<=d[j]!):∀ m,m<=d.size ->
  (Lib.compactUpTo d m).Pairwise (·<·)/\(∀ x∈Lib.compactUpTo d m,∃ j,j<m/\x=d[j]!)/\∀ j,j<m->d[j]!∈Lib.compactUpTo d m
 | 0,_=>by
  have e:Lib.compactUpTo d 0=[]:=rfl;rw [e];exact ⟨.nil,fun x hx=>(by cases hx),fun j hj=>by omega⟩
 | m+1,hm=>by
  obtain ⟨h1,h2,h3⟩:=ko d hd m (by omega);rw [Lib.compactUpTo_succ];cases hk:Lib.keeps d m
  ·simp only [Qz,QW,Q8];have hk:¬ (m=0\/d[m]!≠d[m - 1]!):=uZ hk;refine ⟨h1,fun x hx=>?_,fun j hj=>?_⟩
   ·obtain ⟨j,hj,e⟩:=h2 x hx;exact ⟨j,by omega,e⟩
   ·by_cases hjm:j=m
    ·subst hjm;have e:d[j]! = d[j - 1]!:=Rc fun h=>hk (.inr h)
     rw [e];exact h3 _ (by omega)
    ·exact h3 j (by omega)
  ·simp only [if_true];have hk:m=0\/d[m]!≠d[m - 1]!:=tM hk;refine ⟨Sp.2 ⟨h1,List.pairwise_singleton _ _,fun x hx y hy=>?_⟩,fun x hx=>?_,fun j hj=>?_⟩
   ·rw [QA.1 hy];obtain ⟨j,hj,e⟩:=h2 x hx;subst e;have h5:=hd (m - 1) m (by omega) (by omega);by_cases hjm:j=m - 1
    ·subst hjm;omega
    ·have:=hd j (m - 1) (by omega) (by omega);omega
   ·rcases Qx.1 hx with hx | hx
    ·obtain ⟨j,hj,e⟩:=h2 x hx;exact ⟨j,by omega,e⟩
    ·exact ⟨m,by omega,QA.1 hx⟩
   ·by_cases hjm:j=m
    ·subst hjm;simp
    ·exact L3 _ (h3 j (by omega))
theorem l9 (xs:List Int):(eC xs).Pairwise (·<=·):=by
 have:=List.pairwise_mergeSort (le:=fun x y:Int=>decide (x<=y)) (fun a b c h1 h2=>by simp only [QP] at *; omega) (fun a b=>by simp only [Ri,QP]; omega) xs;exact this.imp (fun h=>tM h)
theorem rF {xs:List Int} {x:Int}:x∈eC xs ↔ x∈xs:=List.mem_mergeSort
theorem jv (xs:List Int):(eC xs).length=xs.length:=List.length_mergeSort _
theorem ui {xs:List Int} (h:xs.Pairwise (·<=·)):(fV xs).Pairwise (·<·)/\∀ x,x∈fV xs ↔ x∈xs:=by
 have hd:∀ i j,i<j->j<xs.toArray.size->xs.toArray[i]!<=xs.toArray[j]!:=by
  intro i j hij hj;have hj:j<xs.length:=by simpa using hj
  have:=Sl.1 h i j (by omega) hj hij;simpa [show i<xs.length by omega,hj] using this
 obtain ⟨h1,h2,h3⟩:=ko xs.toArray hd xs.length (by simp);refine ⟨h1,fun x=>⟨fun hx=>tQ xs x hx,fun hx=>?_⟩⟩;obtain ⟨j,hj,e⟩:=List.getElem_of_mem hx;have:=h3 j hj;simp only [List.getElem!_toArray,hj,getElem!_pos,e] at this;exact this
theorem rL:∀ {l k:List Int},l.Pairwise (·<·)->k.Pairwise (·<·)->(∀ x,x∈l ↔ x∈k)->l=k
 | [],[],_,_,_=>rfl
 | [],y::k,_,_,h=>absurd ((h y).2 (by simp)) (by simp)
 | x::l,[],_,_,h=>absurd ((h x).1 (by simp)) (by simp)
 | x::l,y::k,hl,hk,h=>by
  obtain ⟨a1,a2⟩:=Q9.1 hl;obtain ⟨b1,b2⟩:=Q9.1 hk
  have e:x=y:=by
   have h1:=(h x).1 (by simp);have h2:=(h y).2 (by simp);rcases Qs.1 h1 with h1 | h1
   ·exact h1
   ·rcases Qs.1 h2 with h2 | h2
    ·exact h2.symm
    ·have:=b1 x h1;have:=a1 y h2;omega
  subst e;rw [rL a2 b2 (fun z=>⟨fun hz=>?_,fun hz=>?_⟩)]
  ·have:=(h z).1 (by simp [hz]);rcases Qs.1 this with e | h1
   ·subst e;exact absurd (a1 z hz) (by omega)
   ·exact h1
  ·have:=(h z).2 (by simp [hz]);rcases Qs.1 this with e | h1
   ·subst e;exact absurd (b1 z hz) (by omega)
   ·exact h1
theorem Ks (m:Nat):((List.range m).map Int.ofNat).Pairwise (·<·):=by
 rw [List.pairwise_map];exact List.pairwise_lt_range.imp (fun h=>by simp only [S5]; omega)
theorem Du (l:List Int) (m:Nat):(iN l m).Pairwise (·<·):=(Ks m).filter _
theorem vk {l:List Int} {m:Nat} {x:Int}:x∈iN l m ↔ 0<=x/\x<m/\x∈l:=by
 unfold iN;rw [Rx,cG,QR];constructor
 ·rintro ⟨⟨j,hj,rfl⟩,hx⟩;have:=SP.1 hj;simp only [S5] at *;exact ⟨by omega,by omega,hx⟩
 ·rintro ⟨h1,h2,h3⟩;exact ⟨⟨x.toNat,SP.2 (by omega),by simp only [S5]; omega⟩,h3⟩
end
section
def fO (a:List Int) (x:Int):List Int:=((bP a x).filter fun v=>decide (v≠0)).map (· - 1)
inductive Rch (a from_:List Int):Int->Prop
 | base {x:Int}:x∈from_->Rch a from_ x
 | step {x y:Int}:Rch a from_ x->y∈fO a x->Rch a from_ y
def ro (a l:List Int):Bool:=l.all fun x=>(fO a x).all (fR l)
def qI (a l:List Int):List Int:=l++l.flatMap (fO a)
def tJ (a:List Int):Nat->List Int->List Int
 | 0,l=>l
 | n+1,l=>if ro a l=true then l else tJ a n (qI a l)
def bN (a from_:List Int):List Int:=iN (tJ a 257 from_) 256
theorem oO {α:Type} {p q:α->Bool}:∀ (l:List α),(∀ x∈l,p x=true->q x=true)->(l.filter p).length<=(l.filter q).length
 | [],_=>by simp
 | x::l,h=>by
  have ih:=oO l (fun y hy=>h y (by simp [hy]));have hx:=h x (by simp);cases hp:p x
  ·rw [RF (by simp [hp])];cases hq:q x
   ·rw [RF (by simp [hq])]; exact ih
   ·rw [Rj hq,HN]; omega
  ·rw [Rj hp,Rj (hx hp),HN,HN]; omega
theorem oN {α:Type} {p q:α->Bool}:∀ (l:List α),(∀ x∈l,p x=true->q x=true)->(∃ x∈l,p x=false/\q x=true)->(l.filter p).length<(l.filter q).length
 | [],_,h=>by obtain ⟨x,hx,_⟩:=h; cases hx
 | x::l,h,⟨y,hy,hp,hq⟩=>by
  have h':∀ y∈l,p y=true->q y=true:=fun y hy=>h y (by simp [hy])
  have le:=oO l h';rcases Qs.1 hy with rfl | hy
  ·rw [RF (by simp [hp]),Rj hq,HN]; omega
  ·have ih:=oN l h' ⟨y,hy,hp,hq⟩;have hx:=h x (by simp);cases hp:p x
   ·rw [RF (by simp [hp])];cases hq:q x
    ·rw [RF (by simp [hq])]; exact ih
    ·rw [Rj hq,HN]; omega
   ·rw [Rj hp,Rj (hx hp),HN,HN]; omega
def Hs (l:List Int):Nat:=(iN l 256).length
theorem PI (l:List Int):Hs l<=256:=by
 have:=SR (fR l) ((List.range 256).map Int.ofNat);unfold Hs iN;simpa using this
theorem PG {l k:List Int} (h:∀ x∈l,x∈k) {y:Int} (hy:y∈k) (hn:¬ y∈l) (h0:0<=y) (h1:y<=255):Hs l<Hs k:=by
 refine oN _ (fun x _ hx=>cG.2 (h x (cG.1 hx))) ⟨y,?_,?_,cG.2 hy⟩
 ·rw [QR];exact ⟨y.toNat,SP.2 (by omega),by simp only [S5]; omega⟩
 ·cases hl:fR l y
  ·rfl
  ·exact absurd (cG.1 hl) hn
theorem tR {a l:List Int}:ro a l=true ↔ ∀ x∈l,∀ y∈fO a x,y∈l:=by
 unfold ro;simp only [Qy,cG]
theorem gY {a:List Int} {x:Int} (h:isB (ac a).1 x=true):0<=x/\x<=255:=cS _ (MA h).1
theorem rO {a:List Int} (hw:∀ x∈a,ak .u64 x) (hc:(am a).2.2=0) {x y:Int} (hx:isB (ac a).1 x=true) (hy:y∈fO a x):isB (ac a).1 y=true:=by
 unfold fO at hy;obtain ⟨v,hv,rfl⟩:=QR.1 hy;obtain ⟨hv,h0⟩:=Rx.1 hv;have h0:=tM h0;rcases pb hw hc _ (fG hx).1 v hv with e | ⟨_,_,e⟩
 ·exact absurd e h0
 ·exact e
theorem Rch.isB {a from_:List Int} (hw:∀ x∈a,ak .u64 x) (hc:(am a).2.2=0) (hf:∀ x∈from_,isB (ac a).1 x=true) {x:Int} (h:Rch a from_ x):isB (ac a).1 x=true:=by
 induction h with
 | base h=>exact hf _ h
 | step _ h ih=>exact rO hw hc ih h
theorem Rch.mem {a from_ l:List Int} (h1:∀ x∈from_,x∈l) (h2:∀ x∈l,∀ y∈fO a x,y∈l) {x:Int} (h:Rch a from_ x):x∈l:=by
 induction h with
 | base h=>exact h1 _ h
 | step _ h ih=>exact h2 _ ih _ h
theorem Rch.mono {a f g:List Int} (h:∀ x∈f,Rch a g x) {x:Int} (hx:Rch a f x):Rch a g x:=by
 induction hx with
 | base hx=>exact h _ hx
 | step _ hy ih=>exact .step ih hy
theorem zu (a:List Int):∀ (n:Nat) (l:List Int),∀ x∈l,x∈tJ a n l
 | 0,_,_,h=>h
 | n+1,l,x,h=>by
  unfold tJ;split
  ·exact h
  ·exact zu a n _ x (by unfold qI; simp [h])
theorem zv {a f:List Int}:∀ (n:Nat) (l:List Int),(∀ x∈l,Rch a f x)->∀ x∈tJ a n l,Rch a f x
 | 0,_,h,x,hx=>h x hx
 | n+1,l,h,x,hx=>by
  unfold tJ at hx;split at hx
  ·exact h x hx
  ·refine zv n _ (fun y hy=>?_) x hx;unfold qI at hy;rcases Qx.1 hy with hy | hy
   ·exact h y hy
   ·obtain ⟨z,hz,hy⟩:=R7.1 hy;exact .step (h z hz) hy
theorem qQ {a:List Int} (hw:∀ x∈a,ak .u64 x) (hc:(am a).2.2=0):∀ (n:Nat) (l:List Int),(∀ x∈l,isB (ac a).1 x=true)->257<=n+Hs l->ro a (tJ a n l)=true
 | 0,l,_,hn=>by have:=PI l; omega
 | n+1,l,hl,hn=>by
  unfold tJ;by_cases h:ro a l=true
  ·rw [if_pos h]; exact h
  rw [if_neg h]
  have hl2:∀ x∈qI a l,isB (ac a).1 x=true:=by
   intro y hy;unfold qI at hy;rcases Qx.1 hy with hy | hy
   ·exact hl y hy
   ·obtain ⟨z,hz,hy⟩:=R7.1 hy;exact rO hw hc (hl z hz) hy
  refine qQ hw hc n _ hl2 ?_;rw [tR] at h
  have h:∃ x,x∈l/\∃ y,y∈fO a x/\¬ y∈l:=by
   apply Rc;intro hno;apply h;intro x hx y hy;apply Rc;intro hyl;exact hno ⟨x,hx,y,hy,hyl⟩
  obtain ⟨x,hx,y,hy,hyl⟩:=h
  have hy2:y∈qI a l:=by
   unfold qI;exact Qw _ (R7.2 ⟨x,hx,hy⟩)
  have hr:=gY (hl2 y hy2);have:=PG (l:=l) (k:=qI a l) (fun z hz=>by unfold qI; simp [hz]) hy2 hyl hr.1 hr.2;omega
theorem iC {a from_:List Int} (hw:∀ x∈a,ak .u64 x) (hc:(am a).2.2=0) (hf:∀ x∈from_,isB (ac a).1 x=true) {x:Int}:x∈bN a from_ ↔ Rch a from_ x:=by
 unfold bN;rw [vk];constructor
 ·intro h;exact zv 257 from_ (fun y hy=>.base hy) x h.2.2
 ·intro h;have hr:=gY (h.isB hw hc hf);refine ⟨hr.1,by omega,?_⟩;have hcl:=tR.1 (qQ hw hc 257 from_ hf (by omega));exact h.mem (zu a 257 from_) hcl
theorem mb (a from_:List Int):(bN a from_).Pairwise (·<·):=Du _ _
structure Full (a from_ out:List Int):Prop where
 has:∀ x∈from_,x∈out
 only:∀ x∈out,Rch a from_ x
 all:∀ x∈out,∀ y∈fO a x,y∈out
theorem Full.iff {a from_ out:List Int} (h:Full a from_ out) {x:Int}:x∈out ↔ Rch a from_ x:=⟨h.only x,fun hx=>hx.mem h.has h.all⟩
theorem Full.sorted {a from_ out:List Int} (hw:∀ x∈a,ak .u64 x) (hc:(am a).2.2=0) (hf:∀ x∈from_,isB (ac a).1 x=true) (h:Full a from_ out) (hd:out.Nodup):eC out=bN a from_:=by
 refine rL ?_ (mb _ _) (fun x=>by rw [rF,iC hw hc hf,h.iff]);have h1:=l9 out;have h2:(eC out).Nodup:=(List.mergeSort_perm out _).nodup_iff.2 hd;have h3:=h1.and h2;exact h3.imp (fun ⟨x,y⟩=>by omega)
def bb (a from_:List Int):Int:=if (am a).2.2≠0 then (am a).2.2 else if from_.all (isB (ac a).1)=true then 0 else 5
def dW (a from_:List Int):List Int×Int:=if bb a from_≠0 then ([],bb a from_) else (bN a from_,0)
theorem fg {a from_:List Int} (h:bb a from_=0):(am a).2.2=0/\∀ x∈from_,isB (ac a).1 x=true:=by
 unfold bb at h;split at h
 ·rename_i h1; exact absurd h h1
 ·rename_i h1;split at h
  ·rename_i h2;exact ⟨by omega,Qy.1 h2⟩
  ·omega
theorem jF {a from_:List Int} (h1:(am a).2.2=0) (h2:∀ x∈from_,isB (ac a).1 x=true):bb a from_=0:=by
 unfold bb;rw [if_neg (by omega),if_pos (Qy.2 h2)]
end
end Go.Proofs.YtmfileeamnfpaaaGreatDoor
