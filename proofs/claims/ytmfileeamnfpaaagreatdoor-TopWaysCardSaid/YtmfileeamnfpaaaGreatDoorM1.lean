import Derived.Test.YtmfileeamnfpaaaGreatDoorEG6
import Derived.Test.YtmfileeamnfpaaaGreatDoorRows
import Derived.Lib.SplitLaws
import Derived.Lib.AtoiAll
import Derived.Lib.ItoaNum
import Derived.WalkKit
import Derived.Lib.ItoaLen
import Derived.Shelf.Strings.Split
import Derived.Shelf.Strings.SplitCore
import Derived.Shelf.Strings.Search3
import Derived.Shelf.Strconv.Itoa3
import Derived.Shelf.Strconv.AtoiAll
import Derived.Shelf.Sort.Plain
import Derived.Shelf.Slices.In.SortNone
import Derived.Shelf.Slices.CompactI
import Derived.Sort.OwnSortedInts
namespace Go.Proofs.YtmfileeamnfpaaaGreatDoor
open Go
set_option maxRecDepth 100000
set_option maxHeartbeats 1000000
section
def MD:List (Nat×Spec)->FuncId->Option Spec
 | [],_=>none
 | e::l,f=>if Nat.beq e.1 f then some e.2 else MD l f
def MC:List (Nat×TFn)->FuncId->Option TFn
 | [],_=>none
 | e::l,f=>if Nat.beq e.1 f then some e.2 else MC l f
def ME (l:List (Nat×Spec)) (r:List (Nat×TFn):=[]):Specs:={ fn:=MD l,row:=MC r }
theorem ap:(ME []).ok Tryz.prog:=by
 refine ⟨rfl,?_,?_⟩
 ·intro f s h;cases h
 ·intro f s h;cases h
theorem Bm {P:Program} {f:Nat} {s:TFn} {r:List (Nat×TFn)} (h:s.ok P f) (hl:(ME [] r).ok P):(ME [] ((f,s)::r)).ok P:=by
 refine ⟨hl.1,hl.2.1,?_⟩;intro g t e;have e:MC ((f,s)::r) g=some t:=e;unfold MC at e;split at e
 ·rename_i he;have he:=Pw he;injection e with e
  subst e;simp only at he;subst he;exact h
 ·exact hl.2.2 g t e
theorem fO {P:Program} {f:Nat} {s:RowFn} {r:List (Nat×TFn)} (h:s.ok P f) (hl:(ME [] r).ok P):(ME [] ((f,.row s)::r)).ok P:=Bm (s:=.row s) h hl
theorem Gs {P:Program} {f:Nat} {s:BoxFn} {r:List (Nat×TFn)} (h:s.ok P f) (hl:(ME [] r).ok P):(ME [] ((f,.box s)::r)).ok P:=Bm (s:=.box s) h hl
theorem ac {P:Program} {f:Nat} {s:Spec} {l:List (Nat×Spec)} {r:List (Nat×TFn)} (h:s.ok P f) (hl:(ME l r).ok P):(ME ((f,s)::l) r).ok P:=by
 refine ⟨hl.1,?_,hl.2.2⟩;intro g t e;have e:MD ((f,s)::l) g=some t:=e;unfold MD at e;split at e
 ·rename_i he;have he:=Pw he;injection e with e
  subst e;simp only at he;subst he;exact h
 ·exact hl.2.1 g t e
theorem aA {ss:Specs} {ann:Nat->Option LoopGen} {f:FuncId} {fn:Func} {s:Spec} {pv:Prop} (hss:ss.ok Tryz.prog) (hfn:Tryz.prog.funcs[f]?=some fn) (e:pv=Oo Tryz.prog ss ann fn s) (h:pv):s.ok Tryz.prog f:=LD hss hfn (e.mp h)
def hJ:(T:Ty)->T.den->Prop
 | .arr T,xs=>(show List T.den from xs).length * T.bytes<=140737488351232/\∀ x∈(show List T.den from xs),hJ T x
 | .pair A B,x=>hJ A x.1/\hJ B x.2
 | .str,s=>s.length<=140737488351232
 | .int _,_=>True
 | .bool,_=>True
 | .nil,_=>True
 | .ref _,_=>True
 | .fn _ _,_=>True
 | .map _ _,_=>True
def mv:(Ts:List Ty)->gi Ts->Prop
 | [],_=>True
 | [T],x=>hJ T x
 | T::U::Ts,x=>hJ T x.1/\mv (U::Ts) x.2
def Ky (Ts:List Ty):Spec:={ Ts:=Ts,Rs:=[.dat .bool],pre:=mv Ts,F:=fun _=>(true:Bool) }
def g9 (B:Nat):(T:Ty)->T.den->Prop
 | .arr T,xs=>(show List T.den from xs).length<=B/\∀ x∈(show List T.den from xs),g9 B T x
 | .pair A C,x=>g9 B A x.1/\g9 B C x.2
 | .str,s=>s.length<=B
 | .int _,_=>True
 | .bool,_=>True
 | .nil,_=>True
 | .ref _,_=>True
 | .fn _ _,_=>True
 | .map _ _,_=>True
def qC (B:Nat):(Ts:List Ty)->gi Ts->Prop
 | [],_=>True
 | [T],x=>g9 B T x
 | T::U::Ts,x=>g9 B T x.1/\qC B (U::Ts) x.2
def cn:Nat->Option LoopGen:=fun _=>none
abbrev ty_I:Ty:=.int .i64
abbrev bo:Ty:=.int .u64
abbrev eX:Ty:=.pair ty_I (.pair ty_I (.pair ty_I .bool))
abbrev Ez:Ty:=.pair ty_I (.pair (.arr ty_I) (.pair (.arr bo) .bool))
abbrev Obj:=Int×List Int×List Int×Bool
theorem fA {n:Int} (h:0<=n) (h2:n<=18446744073709551615):IntKind.u64.wrap n=n:=dz (k:=.u64) ⟨h,h2⟩
theorem jF {n:Int} (h:-9223372036854775808<=n) (h2:n<=9223372036854775807):IntKind.i64.wrap n=n:=dz (k:=.i64) ⟨h,h2⟩
theorem O8:((IntKind.u64.bits:Nat):Int)=64:=rfl
theorem sZ {a b:Int} {i:Nat} (ha:0<=a) (hb:0<=b) (h:a<2 ^ i):((a.toNat ||| (b * 2 ^ i).toNat:Nat):Int)=a+b * 2 ^ i:=by
 obtain ⟨m,rfl⟩:=QK ha;obtain ⟨n,rfl⟩:=QK hb;have h1:m<2 ^ i:=by exact_mod_cast h
 have e:((n:Int) * 2 ^ i).toNat=n * 2 ^ i:=by
  have:((n:Int) * 2 ^ i)=((n * 2 ^ i:Nat):Int):=by push_cast; rfl
  rw [this,QC]
 rw [e,QC,Nat.or_comm,Nat.mul_comm n,<- Nat.two_pow_add_eq_or_of_lt h1 n]
 push_cast
 rw [Int.add_comm,Int.mul_comm]
theorem mN {a:Int} (ha:0<=a) (i:Nat):((a.toNat &&& (2 ^ i - 1):Nat):Int)=a % 2 ^ i:=by
 obtain ⟨m,rfl⟩:=QK ha;rw [Nat.and_two_pow_sub_one_eq_mod]
 push_cast
 rw [QC]
theorem zT (m i:Nat):m &&& 2 ^ i=m / 2 ^ i % 2 * 2 ^ i:=by
 apply Nat.eq_of_testBit_eq;intro j;rw [Nat.testBit_and,Nat.testBit_two_pow]
 have key:m / 2 ^ i % 2=(m.testBit i).toNat:=by
  rw [Nat.testBit_eq_decide_div_mod_eq];rcases Nat.mod_two_eq_zero_or_one (m / 2 ^ i) with h | h <;> simp [h]
 rw [key];by_cases hij:i=j
 ·subst hij;cases h:m.testBit i <;> simp
 ·cases h:m.testBit i <;> simp [hij]
theorem Lm {a:Int} (ha:0<=a) (i:Nat):((a.toNat &&& 2 ^ i:Nat):Int)=a / 2 ^ i % 2 * 2 ^ i:=by
 obtain ⟨m,rfl⟩:=QK ha;rw [QC,zT]
 push_cast
 rfl
theorem bg {α:Type} {xs:List α} (d:α) {i:Int} (h0:0<=i) (h:i<(xs.length:Int)):xs.drop i.toNat=xs.getD i.toNat d::xs.drop (i+1).toNat:=by
 have hi:i.toNat<xs.length:=by omega
 rw [QN hi,show (i+1).toNat=i.toNat+1 by omega];simp [hi]
theorem b6 {α:Type} {xs:List α} {i:Int} (h:¬ i<(xs.length:Int)):xs.drop i.toNat=[]:=by
 rw [List.drop_eq_nil_iff]; omega
theorem a7 {α:Type} {xs:List α} (d:α) {i:Int} (h0:0<=i) (h:i<(xs.length:Int)):xs.take (i+1).toNat=xs.take i.toNat++[xs.getD i.toNat d]:=by
 have hi:i.toNat<xs.length:=by omega
 rw [show (i+1).toNat=i.toNat+1 by omega,Qh hi];simp [hi]
theorem bE {α:Type} {xs:List α} {i:Int} (h:¬ i<(xs.length:Int)):xs.take i.toNat=xs:=by
 rw [PJ]; omega
theorem aH {α:Type} {xs:List α} (d:α) {i:Int} (h0:0<=i) (h:i<(xs.length:Int)):xs.getD i.toNat d∈xs:=by
 have hi:i.toNat<xs.length:=by omega
 simp [hi]
end
section
def ak:List UInt8->List (List UInt8)
 | []=>[[]]
 | c::r=>if c=32 then []::ak r else match ak r with
  | []=>[[c]]
  | p::ps=>(c::p)::ps
theorem xc:∀ s,ak s≠[]
 | []=>by simp [ak]
 | c::r=>by
  unfold ak;split
  ·simp
  ·split <;> simp
theorem mt:∀ s:List UInt8,Lib.indexByte s 32=-1->ak s=[s]
 | [],_=>rfl
 | c::r,h=>by
  unfold Lib.indexByte at h
  have hc:c≠32:=by
   intro e;rw [if_pos (by simp [e])] at h;cases h
  have hr:Lib.indexByte r 32=-1:=by
   rw [if_neg (by simp [hc])] at h;split at h
   ·rename_i h1;simpa using h1
   ·have:=Lib.indexByte_ge r 32;omega
  unfold ak;rw [if_neg hc,mt r hr]
theorem mq:∀ (s:List UInt8) (i:Nat),Lib.indexByte s 32=i->ak s=s.take i::ak (s.drop (i+1))/\(s.drop (i+1)).count 32+1=s.count 32
 | [],i,h=>by
  simp only [Lib.indexByte] at h;omega
 | c::r,i,h=>by
  unfold Lib.indexByte at h;by_cases hc:c=32
  ·rw [if_pos (by simp [hc])] at h;obtain rfl:i=0:=by omega
   subst hc;rw [ak,if_pos rfl];simp
  ·rw [if_neg (by simp [hc])] at h;split at h
   ·omega
   ·rename_i hn;have hr:=Lib.indexByte_ge r 32;have hr':Lib.indexByte r 32≠-1:=by simpa using hn
    obtain ⟨j,hj⟩:=QK (show 0<=Lib.indexByte r 32 by omega);obtain ⟨h1,h2⟩:=mq r j hj;obtain rfl:i=j+1:=by omega
    refine ⟨?_,?_⟩
    ·rw [ak,if_neg hc,h1];simp
    ·rw [List.count_cons_of_ne hc];simpa using h2
theorem xd:∀ (k:Nat) (s:List UInt8),s.count 32=k->Lib.splitK [32] 0 k s=ak s
 | 0,s,h=>by
  have hi:Lib.indexByte s 32=-1:=by
   apply Qm;intro hn;have:=Lib.indexByte_ge s 32;obtain ⟨j,hj⟩:=QK (show 0<=Lib.indexByte s 32 by omega);have:=(mq s j hj).2;omega
  rw [mt s hi];rfl
 | k+1,s,h=>by
  unfold Lib.splitK;rw [Lib.index_one];by_cases hi:Lib.indexByte s 32=-1
  ·rw [if_pos (by simp [hi]),mt s hi]
  ·have:=Lib.indexByte_ge s 32;obtain ⟨j,hj⟩:=QK (show 0<=Lib.indexByte s 32 by omega);obtain ⟨h1,h2⟩:=mq s j hj;rw [if_neg (by simp [hi]),h1,hj];simp only [QC,QU,Pz,P4,Qg];rw [xd k _ (by omega)]
def fV (s:List UInt8):Int×Bool:=match Lib.atoiAll s with
 | .ok v=>(v,decide (-1000000000000000<v/\v<1000000000000000/\Lib.itoa v=s))
 | .range=>(Lib.atoiSat s,false)
 | _=>(0,false)
end
section
open Go Go.RowKit Go.Shelf
set_option maxHeartbeats 4000000
def wz:Go.Shelf.Ren:=⟨fun | 146=>185 | 221=>236 | 268=>258 | 138=>259 | 143=>260 | 195=>274 | 197=>275 | 218=>276 | 219=>277 | 260=>291 | 217=>292 | 225=>293 | 224=>294 | 267=>295 | 266=>301 | 314=>302 | n=>n,fun | 9=>9 | 31=>22 | 3=>3 | 4=>4 | 0=>0 | 105=>342 | 21=>21 | 5=>5 | 46=>182 | 119=>361 | 139=>364 | 138=>363 | 146=>283 | 51=>267 | n=>n,fun | 1=>2 | 3=>5 | 4=>6 | n=>n⟩
theorem Ja:Go.Proofs.Lays.n146 Tryz.prog wz where
 mixed:=by kernel_rfl
 f138:=Tryz.func259.trans (congrArg some (by kernel_rfl))
 f143:=Tryz.func260.trans (congrArg some (by kernel_rfl))
 f146:=Tryz.func185.trans (congrArg some (by kernel_rfl))
 f195:=Tryz.func274.trans (congrArg some (by kernel_rfl))
 f197:=Tryz.func275.trans (congrArg some (by kernel_rfl))
 f217:=Tryz.func292.trans (congrArg some (by kernel_rfl))
 f218:=Tryz.func276.trans (congrArg some (by kernel_rfl))
 f219:=Tryz.func277.trans (congrArg some (by kernel_rfl))
 f221:=Tryz.func236.trans (congrArg some (by kernel_rfl))
 f224:=Tryz.func294.trans (congrArg some (by kernel_rfl))
 f225:=Tryz.func293.trans (congrArg some (by kernel_rfl))
 f260:=Tryz.func291.trans (congrArg some (by kernel_rfl))
 f266:=Tryz.func301.trans (congrArg some (by kernel_rfl))
 f267:=Tryz.func295.trans (congrArg some (by kernel_rfl))
 f268:=Tryz.func258.trans (congrArg some (by kernel_rfl))
 f314:=Tryz.func302.trans (congrArg some (by kernel_rfl))
 t0:=RG
 a0:=Sv
 z0:=Sa
 v0:=RN
 t3:=RF
 a3:=Su
 z3:=R9
 v3:=RM
 t4:=Rf
 a4:=Sq
 z4:=R8
 v4:=RL
 t5:=Tryz.underlying5
 a5:=Tryz.isAgg5
 z5:=Tryz.sizeOf5
 v5:=Tryz.zeroValue5
 t9:=Tryz.underlying9
 a9:=Tryz.isAgg9
 z9:=Tryz.sizeOf9
 v9:=Tryz.zeroValue9
 t21:=Tryz.underlying21
 a21:=Tryz.isAgg21
 z21:=Tryz.sizeOf21
 v21:=Tryz.zeroValue21
 t31:=Tryz.underlying22
 a31:=Tryz.isAgg22
 z31:=Tryz.sizeOf22
 v31:=Tryz.zeroValue22
 t46:=Sg
 a46:=Tryz.isAgg182
 z46:=Tryz.sizeOf182
 v46:=Sn
 t51:=Sf
 a51:=Tryz.isAgg267
 z51:=Tryz.sizeOf267
 v51:=Sm
 t105:=Tryz.underlying342
 a105:=Tryz.isAgg342
 z105:=Tryz.sizeOf342
 v105:=Tryz.zeroValue342
 t119:=Tryz.underlying361
 a119:=Tryz.isAgg361
 z119:=Tryz.sizeOf361
 t138:=Tryz.underlying363
 a138:=Tryz.isAgg363
 z138:=Tryz.sizeOf363
 v138:=Tryz.zeroValue363
 t139:=Tryz.underlying364
 a139:=Tryz.isAgg364
 z139:=Tryz.sizeOf364
 v139:=Tryz.zeroValue364
 t146:=Tryz.underlying283
 a146:=Tryz.isAgg283
 z146:=Tryz.sizeOf283
 v146:=Tryz.zeroValue283
 g1:=by kernel_rfl
 g3:=by kernel_rfl
 g4:=by kernel_rfl
def zY:Go.Shelf.Ren:=⟨fun | 171=>110 | 243=>188 | 246=>243 | 283=>264 | 284=>265 | 285=>266 | 286=>267 | 129=>184 | 317=>283 | 318=>284 | 319=>285 | 320=>286 | 337=>299 | 338=>300 | n=>n,fun | 3=>3 | 9=>9 | 2=>2 | 4=>4 | 171=>336 | 0=>0 | 53=>45 | 37=>148 | 5=>5 | 173=>338 | 212=>353 | 51=>267 | 20=>20 | 213=>354 | 46=>182 | 232=>371 | 233=>372 | n=>n,fun | 17=>1 | 18=>7 | 19=>8 | n=>n⟩
theorem Ll:Go.Proofs.LaysM.n171 Tryz.prog zY where
 mixed:=by kernel_rfl
 f129:=Tryz.func184.trans (congrArg some (by kernel_rfl))
 f171:=Tryz.func110.trans (congrArg some (by kernel_rfl))
 f243:=Tryz.func188.trans (congrArg some (by kernel_rfl))
 f246:=Tryz.func243.trans (congrArg some (by kernel_rfl))
 f283:=Tryz.func264.trans (congrArg some (by kernel_rfl))
 f284:=Tryz.func265.trans (congrArg some (by kernel_rfl))
 f285:=Tryz.func266.trans (congrArg some (by kernel_rfl))
 f286:=Tryz.func267.trans (congrArg some (by kernel_rfl))
 f317:=Tryz.func283.trans (congrArg some (by kernel_rfl))
 f318:=Tryz.func284.trans (congrArg some (by kernel_rfl))
 f319:=Tryz.func285.trans (congrArg some (by kernel_rfl))
 f320:=Tryz.func286.trans (congrArg some (by kernel_rfl))
 f337:=Tryz.func299.trans (congrArg some (by kernel_rfl))
 f338:=Tryz.func300.trans (congrArg some (by kernel_rfl))
 t0:=RG
 a0:=Sv
 z0:=Sa
 v0:=RN
 t2:=Tryz.underlying2
 a2:=Tryz.isAgg2
 z2:=Tryz.sizeOf2
 v2:=Tryz.zeroValue2
 t3:=RF
 a3:=Su
 z3:=R9
 v3:=RM
 t4:=Rf
 a4:=Sq
 z4:=R8
 v4:=RL
 t5:=Tryz.underlying5
 a5:=Tryz.isAgg5
 z5:=Tryz.sizeOf5
 v5:=Tryz.zeroValue5
 t9:=Tryz.underlying9
 a9:=Tryz.isAgg9
 z9:=Tryz.sizeOf9
 v9:=Tryz.zeroValue9
 t20:=Tryz.underlying20
 a20:=Tryz.isAgg20
 z20:=Tryz.sizeOf20
 v20:=Tryz.zeroValue20
 t37:=Tryz.underlying148
 a37:=Tryz.isAgg148
 z37:=Tryz.sizeOf148
 v37:=Tryz.zeroValue148
 t46:=Sg
 a46:=Tryz.isAgg182
 z46:=Tryz.sizeOf182
 v46:=Sn
 t51:=Sf
 a51:=Tryz.isAgg267
 z51:=Tryz.sizeOf267
 v51:=Sm
 t53:=So
 a53:=Tryz.isAgg45
 z53:=Tryz.sizeOf45
 v53:=Tryz.zeroValue45
 t171:=Tryz.underlying336
 a171:=Tryz.isAgg336
 z171:=Tryz.sizeOf336
 v171:=Tryz.zeroValue336
 t173:=Tryz.underlying338
 a173:=Tryz.isAgg338
 z173:=Tryz.sizeOf338
 v173:=Tryz.zeroValue338
 t212:=Tryz.underlying353
 a212:=Tryz.isAgg353
 z212:=Tryz.sizeOf353
 v212:=Tryz.zeroValue353
 t213:=Tryz.underlying354
 a213:=Tryz.isAgg354
 z213:=Tryz.sizeOf354
 t232:=Tryz.underlying371
 a232:=Tryz.isAgg371
 z232:=Tryz.sizeOf371
 v232:=Tryz.zeroValue371
 t233:=Tryz.underlying372
 a233:=Tryz.isAgg372
 z233:=Tryz.sizeOf372
 v233:=Tryz.zeroValue372
 g17:=by kernel_rfl
 g18:=by kernel_rfl
 g19:=by kernel_rfl
 i0:=by kernel_rfl
 i2:=by kernel_rfl
 i3:=by kernel_rfl
 i4:=by kernel_rfl
 i5:=by kernel_rfl
 i9:=by kernel_rfl
 i20:=by kernel_rfl
 i37:=by kernel_rfl
 i46:=by kernel_rfl
 i51:=by kernel_rfl
 i53:=by kernel_rfl
 i171:=by kernel_rfl
 i173:=by kernel_rfl
 i212:=by kernel_rfl
 i232:=by kernel_rfl
 i233:=by kernel_rfl
 m17:=by kernel_rfl
 m18:=by kernel_rfl
 m19:=by kernel_rfl
def zZ:Go.Shelf.Ren:=⟨fun | 172=>242 | 244=>262 | 245=>263 | 247=>278 | 279=>279 | 280=>280 | 281=>281 | 282=>282 | 287=>296 | 316=>297 | 171=>110 | 205=>298 | 321=>303 | 322=>304 | 243=>188 | 246=>243 | 283=>264 | 284=>265 | 285=>266 | 286=>267 | 129=>184 | 317=>283 | 318=>284 | 319=>285 | 320=>286 | 337=>299 | 338=>300 | n=>n,fun | 9=>9 | 3=>3 | 75=>314 | 76=>315 | 4=>4 | 5=>5 | 167=>345 | 37=>148 | 0=>0 | 85=>346 | 2=>2 | 168=>348 | 53=>45 | 175=>356 | 46=>182 | 210=>359 | 127=>367 | 145=>370 | 143=>368 | 21=>21 | 171=>336 | 173=>338 | 212=>353 | 51=>267 | 20=>20 | 213=>354 | 232=>371 | 233=>372 | 80=>373 | n=>n,fun | 15=>3 | 16=>4 | 17=>1 | 18=>7 | 19=>8 | n=>n⟩
theorem uJ:Go.Proofs.LaysC.n172 Tryz.prog zZ where
 mixed:=by kernel_rfl
 f129:=Tryz.func184.trans (congrArg some (by kernel_rfl))
 f171:=Tryz.func110.trans (congrArg some (by kernel_rfl))
 f172:=Tryz.func242.trans (congrArg some (by kernel_rfl))
 f205:=Tryz.func298.trans (congrArg some (by kernel_rfl))
 f243:=Tryz.func188.trans (congrArg some (by kernel_rfl))
 f244:=Tryz.func262.trans (congrArg some (by kernel_rfl))
 f245:=Tryz.func263.trans (congrArg some (by kernel_rfl))
 f246:=Tryz.func243.trans (congrArg some (by kernel_rfl))
 f247:=Tryz.func278.trans (congrArg some (by kernel_rfl))
 f279:=Tryz.func279.trans (congrArg some (by kernel_rfl))
 f280:=Tryz.func280.trans (congrArg some (by kernel_rfl))
 f281:=Tryz.func281.trans (congrArg some (by kernel_rfl))
 f282:=Tryz.func282.trans (congrArg some (by kernel_rfl))
 f283:=Tryz.func264.trans (congrArg some (by kernel_rfl))
 f284:=Tryz.func265.trans (congrArg some (by kernel_rfl))
 f285:=Tryz.func266.trans (congrArg some (by kernel_rfl))
 f286:=Tryz.func267.trans (congrArg some (by kernel_rfl))
 f287:=Tryz.func296.trans (congrArg some (by kernel_rfl))
 f316:=Tryz.func297.trans (congrArg some (by kernel_rfl))
 f317:=Tryz.func283.trans (congrArg some (by kernel_rfl))
 f318:=Tryz.func284.trans (congrArg some (by kernel_rfl))
 f319:=Tryz.func285.trans (congrArg some (by kernel_rfl))
 f320:=Tryz.func286.trans (congrArg some (by kernel_rfl))
 f321:=Tryz.func303.trans (congrArg some (by kernel_rfl))
 f322:=Tryz.func304.trans (congrArg some (by kernel_rfl))
 f337:=Tryz.func299.trans (congrArg some (by kernel_rfl))
 f338:=Tryz.func300.trans (congrArg some (by kernel_rfl))
 t0:=RG
 a0:=Sv
 z0:=Sa
 v0:=RN
 t2:=Tryz.underlying2
 a2:=Tryz.isAgg2
 z2:=Tryz.sizeOf2
 v2:=Tryz.zeroValue2
 t3:=RF
 a3:=Su
 z3:=R9
 v3:=RM
 t4:=Rf
 a4:=Sq
 z4:=R8
 v4:=RL
 t5:=Tryz.underlying5
 a5:=Tryz.isAgg5
 z5:=Tryz.sizeOf5
 v5:=Tryz.zeroValue5
 t9:=Tryz.underlying9
 a9:=Tryz.isAgg9
 z9:=Tryz.sizeOf9
 v9:=Tryz.zeroValue9
 t20:=Tryz.underlying20
 a20:=Tryz.isAgg20
 z20:=Tryz.sizeOf20
 v20:=Tryz.zeroValue20
 t21:=Tryz.underlying21
 a21:=Tryz.isAgg21
 z21:=Tryz.sizeOf21
 v21:=Tryz.zeroValue21
 t37:=Tryz.underlying148
 a37:=Tryz.isAgg148
 z37:=Tryz.sizeOf148
 v37:=Tryz.zeroValue148
 t46:=Sg
 a46:=Tryz.isAgg182
 z46:=Tryz.sizeOf182
 v46:=Sn
 t51:=Sf
 a51:=Tryz.isAgg267
 z51:=Tryz.sizeOf267
 v51:=Sm
 t53:=So
 a53:=Tryz.isAgg45
 z53:=Tryz.sizeOf45
 v53:=Tryz.zeroValue45
 t75:=Tryz.underlying314
 a75:=Tryz.isAgg314
 z75:=Tryz.sizeOf314
 v75:=Tryz.zeroValue314
 t76:=Tryz.underlying315
 a76:=Tryz.isAgg315
 z76:=Tryz.sizeOf315
 v76:=Tryz.zeroValue315
 t85:=Tryz.underlying346
 a85:=Tryz.isAgg346
 z85:=Tryz.sizeOf346
 v85:=Tryz.zeroValue346
 t127:=Tryz.underlying367
 a127:=Tryz.isAgg367
 z127:=Tryz.sizeOf367
 v127:=Tryz.zeroValue367
 t143:=Tryz.underlying368
 a143:=Tryz.isAgg368
 z143:=Tryz.sizeOf368
 v143:=Tryz.zeroValue368
 t145:=Tryz.underlying370
 a145:=Tryz.isAgg370
 z145:=Tryz.sizeOf370
 v145:=Tryz.zeroValue370
 t167:=Tryz.underlying345
 a167:=Tryz.isAgg345
 z167:=Tryz.sizeOf345
 v167:=Tryz.zeroValue345
 t168:=Tryz.underlying348
 a168:=Tryz.isAgg348
 z168:=Tryz.sizeOf348
 v168:=Tryz.zeroValue348
 t171:=Tryz.underlying336
 a171:=Tryz.isAgg336
 z171:=Tryz.sizeOf336
 v171:=Tryz.zeroValue336
 t173:=Tryz.underlying338
 a173:=Tryz.isAgg338
 z173:=Tryz.sizeOf338
 v173:=Tryz.zeroValue338
 t175:=Tryz.underlying356
 a175:=Tryz.isAgg356
 z175:=Tryz.sizeOf356
 v175:=Tryz.zeroValue356
 t210:=Tryz.underlying359
 a210:=Tryz.isAgg359
 z210:=Tryz.sizeOf359
 v210:=Tryz.zeroValue359
 t212:=Tryz.underlying353
 a212:=Tryz.isAgg353
 z212:=Tryz.sizeOf353
 v212:=Tryz.zeroValue353
 t213:=Tryz.underlying354
 a213:=Tryz.isAgg354
 z213:=Tryz.sizeOf354
 t232:=Tryz.underlying371
 a232:=Tryz.isAgg371
 z232:=Tryz.sizeOf371
 v232:=Tryz.zeroValue371
 t233:=Tryz.underlying372
 a233:=Tryz.isAgg372
 z233:=Tryz.sizeOf372
 v233:=Tryz.zeroValue372
 g15:=by kernel_rfl
 g16:=by kernel_rfl
 g17:=by kernel_rfl
 g18:=by kernel_rfl
 g19:=by kernel_rfl
 t80:=Tryz.underlying373
 a80:=Tryz.isAgg373
 z80:=Tryz.sizeOf373
 v80:=Tryz.zeroValue373
 i0:=by kernel_rfl
 i2:=by kernel_rfl
 i3:=by kernel_rfl
 i4:=by kernel_rfl
 i5:=by kernel_rfl
 i9:=by kernel_rfl
 i20:=by kernel_rfl
 i21:=by kernel_rfl
 i37:=by kernel_rfl
 i46:=by kernel_rfl
 i51:=by kernel_rfl
 i53:=by kernel_rfl
 i75:=by kernel_rfl
 i76:=by kernel_rfl
 i80:=by kernel_rfl
 i85:=by kernel_rfl
 i127:=by kernel_rfl
 i143:=by kernel_rfl
 i145:=by kernel_rfl
 i167:=by kernel_rfl
 i168:=by kernel_rfl
 i171:=by kernel_rfl
 i173:=by kernel_rfl
 i175:=by kernel_rfl
 i210:=by kernel_rfl
 i212:=by kernel_rfl
 i232:=by kernel_rfl
 i233:=by kernel_rfl
 m15:=by kernel_rfl
 m16:=by kernel_rfl
 m17:=by kernel_rfl
 m18:=by kernel_rfl
 m19:=by kernel_rfl
 c0:=by kernel_rfl
 c2:=by kernel_rfl
 c3:=by kernel_rfl
 c4:=by kernel_rfl
 c5:=by kernel_rfl
 c9:=by kernel_rfl
 c20:=by kernel_rfl
 c21:=by kernel_rfl
 c37:=by kernel_rfl
 c46:=by kernel_rfl
 c51:=by kernel_rfl
 c53:=by kernel_rfl
 c75:=by kernel_rfl
 c76:=by kernel_rfl
 c80:=by kernel_rfl
 c85:=by kernel_rfl
 c127:=by kernel_rfl
 c143:=by kernel_rfl
 c145:=by kernel_rfl
 c167:=by kernel_rfl
 c168:=by kernel_rfl
 c171:=by kernel_rfl
 c173:=by kernel_rfl
 c175:=by kernel_rfl
 c210:=by kernel_rfl
 c212:=by kernel_rfl
 c213:=by kernel_rfl
 c232:=by kernel_rfl
 c233:=by kernel_rfl
theorem JG {P:Program} {ρ:Ren} (L:Lays.n146 P ρ) (hi9:(P.info? (ρ.t 9)).map (fun i=>(i.zero,i.size,i.bytes))=some (some (.string ByteArray.empty),1,16)) (s:ByteArray) (w:World) (hs:s.size<4294967281) :
  Calls P (ρ.f 146) #[.string s,.string ⟨#[32]⟩] w fun e w' =>
   e=.returned (.slice (some ⟨w.heap.size,0,none⟩) (Lib.countB s ⟨#[32]⟩+1) (Lib.countB s ⟨#[32]⟩+1))/\w'=w.alloc (.cells ((Lib.splitB ⟨#[32]⟩ 0 (Lib.countB s ⟨#[32]⟩) s).map Value.string).toArray (ρ.t 9)):=by
 have h1:1<=(⟨#[32]⟩:ByteArray).size:=by decide
 have hle:=Lib.countB_le ⟨#[32]⟩ h1 s.size s (PP _);have hlen:=Lib.splitB_all ⟨#[32]⟩ h1 0 _ s rfl
 have hC:Calls P (ρ.f 138) #[.string s,.string ⟨#[32]⟩] w fun e w'=>e=.returned (.int .i64 (Lib.countB s ⟨#[32]⟩))/\w'=w :=
  (Any.strings_Count_one { L with } s 32 w).mono fun e w' ⟨he,hw⟩=>⟨by
   rw [he];show _=Ending.returned (Value.int .i64 ((Lib.count s.data.toList [32]:Nat):Int));rw [Lib.count_one];rfl,hw⟩
 have hI:∀ (x:ByteArray) (c:Array Value),x.size<=s.size->Calls P (ρ.f 143) #[.string x,.string ⟨#[32]⟩] (w.alloc (.cells c (ρ.t 9))) fun e w'=>e=.returned (.int .i64 (Lib.indexB x ⟨#[32]⟩))/\w'=w.alloc (.cells c (ρ.t 9)):=fun x c _ =>
  (Any.strings_Index_one { L with } x 32 _).mono fun e w' ⟨he,hw⟩=>⟨by
   rw [he];show _=Ending.returned (Value.int .i64 (Lib.index x.data.toList [32]));rw [Lib.index_one],hw⟩
 have c:=Any.strings_genSplit_core { L with } hi9 s ⟨#[32]⟩ 0 (-1) (Lib.countB s ⟨#[32]⟩+1) w hs h1 (Qa _) hI hC (by decide) (by decide) (by rw [if_pos (by decide)]; omega);rw [Nat.add_sub_cancel,hlen] at c;have e2:Lib.cellsOf (Lib.splitB ⟨#[32]⟩ 0 (Lib.countB s ⟨#[32]⟩) s) (Lib.countB s ⟨#[32]⟩+1)=((Lib.splitB ⟨#[32]⟩ 0 (Lib.countB s ⟨#[32]⟩) s).map Value.string).toArray:=by rw [<- hlen]; exact Lib.cellsOf_full _
 rw [e2] at c;have t3:=L.t3; have t9:=L.t9; have t31:=L.t31;have a3:=L.a3; have a9:=L.a9; have a31:=L.a31;have z3:=L.z3; have v3:=L.v3; have z9:=L.z9; have v9:=L.v9; have z31:=L.z31; have v31:=L.v31;have e221:∀ args w,(callFunc (ρ.f 221) args).run P w=.ok (.enter (ρ.f 221) args) w:=enters_of L.f221 (by kernel_rfl) rfl
 go_enter L.f146,Body.n146_ntmps ρ
 go_wp2_with (go_at_fn (ρ.f 221); refine c.mono ?_; rintro e w' ⟨rfl,hw⟩; rw [hw])
 go_ret
 exact ⟨rfl,rfl⟩
theorem Kg (s:ByteArray) (w:World) (hs:s.size<4294967281) :
  Calls Tryz.prog 185 #[.string s,.string ⟨#[32]⟩] w fun e w' =>
   e=.returned (.slice (some ⟨w.heap.size,0,none⟩) (Lib.countB s ⟨#[32]⟩+1) (Lib.countB s ⟨#[32]⟩+1))/\w'=w.alloc (.cells ((Lib.splitB ⟨#[32]⟩ 0 (Lib.countB s ⟨#[32]⟩) s).map Value.string).toArray 9) :=
 JG Ja (by kernel_rfl) s w hs
theorem tH:∀ (s:List UInt8),∀ p∈ak s,p.length<=s.length
 | [],p,h=>by simp [ak] at h; simp [h]
 | c::r,p,h=>by
  have ih:=tH r;unfold ak at h;split at h
  ·rcases PD.1 h with rfl | h
   ·simp
   ·have:=ih p h;simp only [Pz];omega
  ·split at h
   ·simp only [PB] at h;subst h;simp
   ·rename_i q ps e;rcases PD.1 h with rfl | h
    ·have:=ih q (by rw [e]; simp);simp only [Pz];omega
    ·have:=ih p (by rw [e]; simp [h]);simp only [Pz];omega
theorem jm:∀ (s:List UInt8),(ak s).length=s.count 32+1
 | []=>rfl
 | c::r=>by
  have ih:=jm r;unfold ak;by_cases hc:c=32
  ·rw [if_pos hc,hc];simp [ih]
  ·rw [if_neg hc,List.count_cons_of_ne hc];cases e:ak r with
   | nil=>exact absurd e (xc r)
   | cons q ps =>
    rw [e] at ih;simpa using ih
theorem Gz {p:PH}:∀ {xs:List (List UInt8)},(∀ x∈xs,x.length<=aF)->aM (Ty.str.holds p) xs (xs.map fun x=>Value.string ⟨x.toArray⟩)
 | [],_=>rfl
 | x::xs,h=>⟨[.string ⟨x.toArray⟩],xs.map fun x=>Value.string ⟨x.toArray⟩,rfl,⟨rfl,h x (by simp)⟩,Gz (fun y hy=>h y (by simp [hy]))⟩
def ER:Spec:={ Ts:=[.str,.str],Rs:=[.dat (.arr .str)],pre:=fun (x:List UInt8×List UInt8)=>x.2=[32]/\x.1.length<4294967281,F:=fun (x:List UInt8×List UInt8)=>ak x.1 }
theorem EH (s:List UInt8) (hlen:s.length<4294967281) (w:World):Calls Tryz.prog 185 #[.string ⟨s.toArray⟩,.string ⟨#[32]⟩] w fun e w' =>
  e=.returned (.slice (some ⟨w.heap.size,0,none⟩) (ak s).length (ak s).length)/\w'=w.alloc (.cells ((ak s).map fun x=>Value.string ⟨x.toArray⟩).toArray 9):=by
 have hsz:(⟨s.toArray⟩:ByteArray).size=s.length:=by show s.toArray.size=_; simp
 refine (Kg ⟨s.toArray⟩ w (by rw [hsz]; exact hlen)).mono ?_;rintro e w' ⟨rfl,rfl⟩
 have hcnt:Lib.countB ⟨s.toArray⟩ ⟨#[32]⟩=s.count 32:=by
  show Lib.count s.toArray.toList [32]=_;rw [Lib.count_one]
 have hdat:(Lib.splitB ⟨#[32]⟩ 0 (s.count 32) ⟨s.toArray⟩).map (·.data.toList)=ak s:=by
  rw [Lib.splitB_data];exact xd _ s rfl
 have hval:(Lib.splitB ⟨#[32]⟩ 0 (s.count 32) ⟨s.toArray⟩).map Value.string=(ak s).map fun x=>Value.string ⟨x.toArray⟩:=by
  rw [<- hdat,List.map_map];rfl
 rw [hcnt,hval,jm s];exact ⟨rfl,rfl⟩
theorem Fs:ER.ok Tryz.prog 185:=by
 intro p w vs x hL hA hargs hpre
 have key:∀ s:List UInt8,s.length<4294967281->s.length<=aF->Calls Tryz.prog 185 #[.string ⟨s.toArray⟩,.string ⟨#[32]⟩] w fun e w'=>∃ (rs:List Value) (q:PH),e=.returned (cr rs)/\Keep (fun _=>False) w w'/\(∀ b cs,q b=some cs->w.heap.size<=b)/\Agrees q w' /\
   jp w' w.heap.size q q [.dat (.arr .str)] (ak s) rs []:=by
  intro s hlen hb1;refine (EH s hlen w).mono ?_;rintro e w' ⟨rfl,rfl⟩;have hn:=jm s;have hcl:s.count 32<=s.length:=QS;have hnew:=QO w (.cells ((ak s).map fun x=>Value.string ⟨x.toArray⟩).toArray 9);refine ⟨[.slice (some ⟨w.heap.size,0,none⟩) (ak s).length (ak s).length],fun b=>if b=w.heap.size then some (.cells ((ak s).map fun x=>Value.string ⟨x.toArray⟩).toArray) else none,rfl,⟨rfl,rfl,rfl,by simp,fun i hi _=>Below.heap_alloc w _ i hi⟩,fun b cs h=>?_,fun b cs h=>?_,?_⟩
  ·by_cases e:b=w.heap.size
   ·omega
   ·simp [e] at h
  ·by_cases e:b=w.heap.size
   ·subst e;simp only [if_true,Ps] at h;subst h;exact ⟨_,_,hnew⟩
   ·simp [e] at h
  ·refine ⟨_,rfl,?_,fun b hb=>by cases hb⟩;show (Ty.arr .str).holds _ (ak s) [_];refine ⟨some ⟨w.heap.size,0,none⟩,(ak s).length,(ak s).map fun x=>Value.string ⟨x.toArray⟩,rfl,PP _,?_,Gz (fun x hx=>?_),fun _=>⟨w.heap.size,0,rfl,fun j u hu=>?_⟩⟩
   ·show (ak s).length * 16<=aF;simp only [aF];omega
   ·have:=tH s x hx;omega
   ·simpa [PH.cell,Blk.get] using hu
 obtain ⟨v1,rest,rfl,h1,v2,rfl,h2⟩:=hargs;obtain ⟨h1,hb1⟩:[v1]=[Value.string ⟨(x.1:List UInt8).toArray⟩]/\(x.1:List UInt8).length<=aF:=h1;obtain ⟨h2,_⟩:[v2]=[Value.string ⟨(x.2:List UInt8).toArray⟩]/\_:=h2;obtain rfl:=(List.cons.inj h1).1;obtain rfl:=(List.cons.inj h2).1;rw [show (x.2:List UInt8)=[32] from hpre.1];exact key x.1 hpre.2 hb1
def ML:Spec:={ Ts:=[ty_I],Rs:=[.dat .str],pre:=fun _=>True,F:=fun (n:Int)=>Lib.itoa n }
theorem MF {w : World} (h : Laid w) : Lib.TabIs Tryz.prog w "internal/strconv.uint64pow10" .u64 Lib.pow10Tab := by
 obtain ⟨t,fz,e⟩:fits w 1 0 (.agg ((List.range 20).map fun i=>Value.int .u64 ((10 ^ i:Nat):Int)).toArray):=h _ (PK _ (PV));have hg : Tryz.prog.globalNamed "internal/strconv.uint64pow10" = some 1 := by kernel_rfl
 unfold Lib.TabIs World.var?;rw [hg];simp only [Rh,e];congr 1
theorem Dx {w:World} (h:Laid w) (g:Nat) (hg:g=3\/g=4):∃ ev,w.cell? ⟨g,0,none⟩=some ev/\(ev=.nilIface\/∃ te pe,ev=.iface te pe):=by
 have hm:(g,0,Value.nilIface)∈zg:=PK _ (by rcases hg with rfl | rfl <;> simp);obtain ⟨te,pe,e⟩:fits w g 0 .nilIface:=h _ hm;exact ⟨_,e,.inr ⟨te,pe,rfl⟩⟩
theorem Ga (w:World) (k:Nat) (os:Array Go.Obj):Below w.heap.size w (Sort.grow (w.drewN k) os) :=
 ⟨rfl,rfl,rfl,by simp,fun i hi=>by simp [Sort.grow,Array.getElem?_append,hi]⟩
theorem G4 (n:Int) (hn:am .i64 n) (w:World) (h:Laid w):Calls Tryz.prog 110 #[.int .i64 n] w fun e w'=>e=.returned (.string ⟨(Lib.itoa n).toArray⟩)/\Below w.heap.size w w':=by
 simp only [am] at hn;refine (Any.strconv_Itoa Ll n (by omega) (by omega) w (MF h)).mono ?_;rintro e w' ⟨rfl,k,os,rfl⟩;exact ⟨rfl,Ga w k os⟩
theorem M4:ML.ok Tryz.prog 110:=by
 intro p w vs (n:Int) hL hA hargs _;obtain ⟨val,rfl,hv⟩:=hargs;obtain ⟨e,hr⟩:[val]=[Value.int .i64 n]/\am .i64 n:=hv;obtain rfl:=(List.cons.inj e).1;refine (G4 n hr w hL).mono ?_;rintro e w' ⟨rfl,hb⟩;refine ⟨[.string ⟨(Lib.itoa n).toArray⟩],fun _=>none,rfl,⟨hb.os,hb.tape,hb.output,hb.size,fun i hi _=>hb.block i hi⟩,fun _ _ h=>(by cases h),fun _ _ h=>(by cases h),?_⟩;have:=Lib.itoa_length_le n (by simp only [am] at hr; omega) (by simp only [am] at hr; omega);exact ⟨_,rfl,⟨rfl,by show (Lib.itoa n).length<=aF; simp only [aF]; omega⟩,fun b hb=>by cases hb⟩
abbrev Mt (s:List UInt8) (w:World):Prop:=Calls Tryz.prog 187 #[.string ⟨s.toArray⟩] w fun e w'=>e=.returned (.tuple #[.int .i64 (fV s).1,.bool (fV s).2])/\Below w.heap.size w w'
theorem oO {w w':World} (h:w'=w\/∃ t,w'=Lib.bytesWorld w 5 t):Below w.heap.size w w':=by
 rcases h with rfl | ⟨t,rfl⟩
 ·exact Below.refl _ _
 ·exact Lib.bytesWorld_below _ _ _
theorem Laid.below {w w':World} (h:Laid w) (hb:Below w.heap.size w w'):Laid w':=h.of_heap fun _ _ hlt=>hb.block _ hlt
theorem Oi (s:List UInt8) (hs:s.length<=aF) (v:Int) (hv:Lib.atoiAll s=.ok v) (w:World) (h:Laid w):Mt s w:=by
 have hA:=Any.strconv_Atoi_ok uJ ⟨s.toArray⟩ (by show s.toArray.size<=_; simp only [aF] at hs; simp; omega) v hv w;have hb:=Lib.atoiAll_bounds hv;have hF:fV s=(v,decide (-1000000000000000<v/\v<1000000000000000/\Lib.itoa v=s)):=by unfold fV; rw [hv]
 unfold Mt;rw [hF];have hin:am .i64 v:=by simp only [am]; omega
 by_cases h1:-1000000000000000<v
 ·by_cases h2:v<1000000000000000
  ·have e1:decide (-1000000000000000<v)=true:=QA h1;have e2:decide (v<1000000000000000)=true:=QA h2
   go_enter Tryz.func187,Tryz.ntmps187
   go_wp2_with (go_at_call 242; refine hA.mono ?_; rintro e W1 ⟨rfl,hW⟩)
   have hb1:=oO hW;have hI:=G4 v hin W1 (h.below hb1);clear hW
   go_wp2_with (go_at_call 110; refine hI.mono ?_; rintro e W2 ⟨rfl,hb2⟩)
   go_ret2
   refine ⟨?_,hb1.trans (hb2.mono hb1.size)⟩
   have e3:(Lib.itoa v == s)=decide (-1000000000000000<v/\v<1000000000000000/\Lib.itoa v=s):=by
    apply RO.2;simp only [RP,Qk];exact ⟨fun h=>⟨h1,h2,h⟩,fun h=>h.2.2⟩
   rw [e3];rfl
  ·have e1:decide (-1000000000000000<v)=true:=QA h1;have e2:decide (v<1000000000000000)=false:=QI h2
   go_enter Tryz.func187,Tryz.ntmps187
   go_wp2_with (go_at_call 242; refine hA.mono ?_; rintro e W1 ⟨rfl,hW⟩)
   have hb1:=oO hW;clear hW
   go_wp2
   go_ret2
   refine ⟨?_,hb1⟩;rw [QI (fun h=>absurd h.2.1 (by omega))];rfl
 ·have e1:decide (-1000000000000000<v)=false:=QI h1
  go_enter Tryz.func187,Tryz.ntmps187
  go_wp2_with (go_at_call 242; refine hA.mono ?_; rintro e W1 ⟨rfl,hW⟩)
  have hb1:=oO hW;clear hW
  go_wp2
  go_ret2
  refine ⟨?_,hb1⟩;rw [QI (fun h=>absurd h.1 (by omega))];rfl
theorem GZ (s:List UInt8) (z:Int) (w:World) (hA:Calls Tryz.prog 242 #[.string ⟨s.toArray⟩] w fun e w'=>∃ N t,e=.returned (.tuple #[.int .i64 z,.iface t (.pointer (some ⟨N,0,none⟩))])/\Below w.heap.size w w') :
  Calls Tryz.prog 187 #[.string ⟨s.toArray⟩] w fun e w'=>e=.returned (.tuple #[.int .i64 z,.bool false])/\Below w.heap.size w w':=by
 go_enter Tryz.func187,Tryz.ntmps187
 go_wp2_with (go_at_call 242; refine hA.mono ?_; rintro e W1 ⟨N,t,rfl,hb⟩)
 go_wp2
 go_ret2
 exact ⟨rfl,hb⟩
theorem Oj (s:List UInt8) (hs:s.length<=aF) (w:World) (h:Laid w):Mt s w:=by
 have hsz:(⟨s.toArray⟩:ByteArray).size=s.length:=by show s.toArray.size=_; simp
 have hlim:(⟨s.toArray⟩:ByteArray).size<=281474976710656:=by rw [hsz]; simp only [aF] at hs; omega
 cases hv:Lib.atoiAll s
 ·exact Oi s hs _ hv w h
 ·obtain ⟨ev,hc,he⟩:=Dx h 3 (.inl rfl);have hF:fV s=(0,false):=by unfold fV; rw [hv]
  unfold Mt;rw [hF];refine GZ s 0 w ((Any.strconv_Atoi_syntax uJ ⟨s.toArray⟩ hlim hv ev w hc he).mono ?_);rintro e w' ⟨N,rfl,_,_,hb⟩;exact ⟨N,_,rfl,hb⟩
 ·obtain ⟨ev,hc,he⟩:=Dx h 4 (.inr rfl);have hF:fV s=(Lib.atoiSat s,false):=by unfold fV; rw [hv]
  unfold Mt;rw [hF];refine GZ s _ w ((Any.strconv_Atoi_range uJ ⟨s.toArray⟩ hlim hv ev w hc he).mono ?_);rintro e w' ⟨N,rfl,_,_,hb⟩;exact ⟨N,_,rfl,hb⟩
theorem M9 (s:List UInt8):am .i64 (fV s).1:=by
 unfold fV;simp only [am];split
 ·rename_i v hv;have:=Lib.atoiAll_bounds hv;simp only;omega
 ·have:=Lib.atoiSat_bounds s;simp only;omega
 ·simp only;omega
def EU:Spec:={ Ts:=[.str],Rs:=[.dat ty_I,.dat .bool],pre:=fun _=>True,F:=fun (s:List UInt8)=>fV s }
theorem Fw:EU.ok Tryz.prog 187:=by
 intro p w vs (s:List UInt8) hL hA hargs _;obtain ⟨val,rfl,hv⟩:=hargs;obtain ⟨e,hr⟩:[val]=[Value.string ⟨s.toArray⟩]/\s.length<=aF:=hv;obtain rfl:=(List.cons.inj e).1;refine (Oj s hr w hL).mono ?_;rintro e w' ⟨rfl,hb⟩;exact ⟨[.int .i64 (fV s).1,.bool (fV s).2],fun _=>none,rfl,⟨hb.os,hb.tape,hb.output,hb.size,fun i hi _=>hb.block i hi⟩,fun _ _ h=>(by cases h),fun _ _ h=>(by cases h),_,_,rfl,⟨rfl,M9 s⟩,(fun b hb=>by cases hb),_,rfl,rfl,fun b hb=>by cases hb⟩
end
section
theorem w7 {α:Type} {a b:List α} {z:α} {i:Nat} (hl:a.length=b.length) (hi:i<a.length) (ht:a.take i=b.take i) (he:a.getD i z=b.getD i z):a.take (i+1)=b.take (i+1):=by
 rw [Qh hi,Qh (by omega),ht];have h1:a.getD i z=a[i]:=by simp [hi]
 have h2:b.getD i z=b[i]'(by omega):=by simp [show i<b.length by omega]
 rw [<- h1,<- h2,he]
def Ip:Spec:={ Ts:=[.arr ty_I,.arr ty_I],Rs:=[.dat .bool],pre:=fun _=>True,F:=fun (x:List Int×List Int)=>decide (x.1=x.2) }
def JN:Nat->Option LoopGen
 | 4=>some { rd:=[.dat 0 (.arr ty_I),.dat 1 (.arr ty_I)],A:=fun (g:List Int×List Int)=>{ cs:=[.dat 13 ty_I],inv:=fun (i:Int)=>g.1.length=g.2.length/\0<=i/\i<=g.1.length/\g.1.take i.toNat=g.2.take i.toNat,mu:=fun (i:Int)=>(g.1.length - i).toNat } }
 | _=>none
def xJ:Prop :=
  ∀ (x:List Int×List Int),((x.1.length * 8<=aF/\∀ (x_1:Int),x_1∈x.1->am .i64 x_1)/\x.2.length * 8<=aF/\∀ (x_1:Int),x_1∈x.2->am .i64 x_1)->True->(decide ((x.1.length:Int)≠(x.2.length:Int))=true->false=decide (x.1=x.2)/\True)/\(decide ((x.1.length:Int)≠(x.2.length:Int))=false->(x.1.length=x.2.length/\(0:Int)<=0/\0<=(x.1.length:Int)/\List.take (Int.toNat 0) x.1=List.take (Int.toNat 0) x.2)/\∀ (x_1:Int),x.1.length=x.2.length/\0<=x_1/\x_1<=(x.1.length:Int)/\List.take x_1.toNat x.1=List.take x_1.toNat x.2->(decide (x_1<(x.1.length:Int))=true->0<=x_1/\x_1<(x.1.length:Int)/\0<=x_1/\x_1<(x.2.length:Int)/\(decide (x.1.getD x_1.toNat 0≠x.2.getD x_1.toNat 0)=true->false=decide (x.1=x.2)/\True)/\(decide (x.1.getD x_1.toNat 0≠x.2.getD x_1.toNat 0)=false->am .i64 (x_1+1)/\(x.1.length=x.2.length/\0<=x_1+1/\x_1+1<=(x.1.length:Int)/\List.take (x_1+1).toNat x.1=List.take (x_1+1).toNat x.2)/\((x.1.length:Int) - (x_1+1)).toNat<((x.1.length:Int) - x_1).toNat))/\(decide (x_1<(x.1.length:Int))=false->true=decide (x.1=x.2)/\True))
theorem Ep:xJ:=by
 unfold xJ;intro x hw _;refine ⟨fun h=>?_,fun h=>?_⟩
 ·have h:x.1.length≠x.2.length:=by have:=Pt h; omega
  have:x.1≠x.2:=fun e=>h (by rw [e])
  simp [this]
 have hl:x.1.length=x.2.length:=by have:=Pu h; omega
 refine ⟨⟨hl,by omega,by omega,by simp⟩,fun i ⟨_,h0,h1,ht⟩=>⟨fun hlt=>?_,fun hge=>?_⟩⟩
 ·have hlt:i<x.1.length:=by simpa using hlt
  refine ⟨h0,hlt,h0,by omega,fun hne=>?_,fun he=>?_⟩
  ·have hne:x.1.getD i.toNat 0≠x.2.getD i.toNat 0:=by simpa using hne
   have:x.1≠x.2:=fun e=>hne (by rw [e])
   simp [this]
  ·have he:x.1.getD i.toNat 0=x.2.getD i.toNat 0:=by simpa using he
   have hb:x.1.length * 8<=aF:=hw.1.1;unfold aF at hb;refine ⟨by simp only [am]; omega,⟨hl,by omega,by omega,?_⟩,by omega⟩;rw [show (i+1).toNat=i.toNat+1 by omega];exact w7 hl (by omega) ht he
 ·have hge:¬ i<x.1.length:=by simpa using hge
  have hi:i.toNat=x.1.length:=by omega
  rw [hi,PJ (PP _),PJ (by omega)] at ht;simp [ht]
theorem IX:Ip.ok Tryz.prog 40:=aA (ann:=JN) ap Tryz.func40 (by kernel_rfl) Ep
end
section
def dl (L:Nat) (n:Int) (ks:List Int):Bool:=ks.any fun k=>decide (n<0)||decide (k<0)||decide (k > (L:Int))||decide (n > (L:Int) - k)
def eH (L:Nat) (n:Int) (ks:List Int):Int:=if 256<L then 2 else if dl L n ks then 4 else 0
def OB (a:List Int) (i:Nat):Int:=a.getD (i / 8) 0 / 256 ^ (i % 8) % 256
def NA (a:List Int) (n:Nat):List Int:=(List.range n).map (OB a)
def bytesOf (a:List Int):List Int:=NA a (8 * a.length)
def AP:Nat->Option LoopGen
 | 4=>some { rd:=[.dat 2 (.arr ty_I),.dat 1 ty_I,.dat 0 (.arr bo)],A:=fun (ks,n,a)=>{ cs:=[.dat 14 ty_I],inv:=fun (i:Int)=>0<=i/\i<=(ks:List Int).length/\(a:List Int).length<=256/\dl (a:List Int).length n ((ks:List Int).drop i.toNat)=dl (a:List Int).length n ks,mu:=fun (i:Int)=>((ks:List Int).length - i).toNat } }
 | _=>none
def zk:Spec:={ Ts:=[.arr bo,ty_I,.arr ty_I],Rs:=[.dat ty_I],pre:=fun _=>True,F:=fun ((a,n,ks):List Int×Int×List Int)=>eH a.length n ks }
def pd:Prop :=
  ∀ (x:List Int×Int×List Int),((x.1.length * 8<=aF/\∀ (x_1:Int),x_1∈x.1->am .u64 x_1)/\am .i64 x.2.1/\x.2.2.length * 8<=aF/\∀ (x_1:Int),x_1∈x.2.2->am .i64 x_1)->True->(decide (256<(x.1.length:Int))=true->2=eH x.1.length x.2.1 x.2.2/\True)/\(decide (256<(x.1.length:Int))=false->((0:Int)<=0/\0<=(x.2.2.length:Int)/\x.1.length<=256/\dl x.1.length x.2.1 (List.drop (Int.toNat 0) x.2.2)=dl x.1.length x.2.1 x.2.2)/\∀ (x_1:Int),0<=x_1/\x_1<=(x.2.2.length:Int)/\x.1.length<=256/\dl x.1.length x.2.1 (List.drop x_1.toNat x.2.2)=dl x.1.length x.2.1 x.2.2->(decide (x_1<(x.2.2.length:Int))=true->0<=x_1/\x_1<(x.2.2.length:Int)/\((decide (x.2.1<0)||decide (x.2.2.getD x_1.toNat (0:Int)<0)||decide ((x.1.length:Int)<x.2.2.getD x_1.toNat 0))=false->am .i64 ((x.1.length:Int) - x.2.2.getD x_1.toNat 0))/\((decide (x.2.1<0)||decide (x.2.2.getD x_1.toNat (0:Int)<0)||decide ((x.1.length:Int)<x.2.2.getD x_1.toNat 0)||decide ((x.1.length:Int) - x.2.2.getD x_1.toNat 0<x.2.1))=true->4=eH x.1.length x.2.1 x.2.2/\True)/\((decide (x.2.1<0)||decide (x.2.2.getD x_1.toNat (0:Int)<0)||decide ((x.1.length:Int)<x.2.2.getD x_1.toNat 0)||decide ((x.1.length:Int) - x.2.2.getD x_1.toNat 0<x.2.1))=false->am .i64 (x_1+1)/\(0<=x_1+1/\x_1+1<=(x.2.2.length:Int)/\x.1.length<=256/\dl x.1.length x.2.1 (List.drop (x_1+1).toNat x.2.2)=dl x.1.length x.2.1 x.2.2)/\((x.2.2.length:Int) - (x_1+1)).toNat<((x.2.2.length:Int) - x_1).toNat))/\(decide (x_1<(x.2.2.length:Int))=false->0=eH x.1.length x.2.1 x.2.2/\True))
theorem vQ:pd:=by
 unfold pd;intro ⟨a,n,ks⟩ ⟨⟨ha,_⟩,⟨_,_⟩,hk,hks⟩ _;unfold eH aF at *;refine ⟨fun h=>?_,fun h=>⟨⟨by omega,by grind,by grind,by simp⟩,fun i ⟨h0,h1,h2,h3⟩=>⟨fun hlt=>?_,fun hge=>?_⟩⟩⟩
 ·grind
 ·have hlt:i<(ks.length:Int):=by simpa using hlt
  have e:=bg (0:Int) h0 hlt;have hm:=hks _ (aH (0:Int) h0 hlt);simp only [e] at h3;simp only [dl,Q4,am] at *
  grind
 ·rw [b6 (by simpa using hge)] at h3;simp only [dl,List.any_nil] at *
  grind
theorem zO:zk.ok Tryz.prog 253:=aA (ann:=AP) ap Tryz.func253 (by kernel_rfl) vQ
end
section
def wn:Spec:={ Ts:=[.arr bo],Rs:=[.own 45 bo],pre:=fun _=>True,F:=fun (x:List Int)=>x }
def nD:Prop :=
  ∀ (x:List Int),(x.length * 8<=aF/\∀ (x_1:Int),x_1∈x->am .u64 x_1)->True->(x=([]:List Int)->([]:List Int)=x/\True)/\(True->(0+x.length) * 8<=aF/\([]:List Int)++x=x/\True)
theorem tq:nD:=by
 unfold nD;intro x ⟨hb,_⟩ _;simp [hb]
theorem bA:wn.ok Tryz.prog 94:=aA (ann:=cn) ap Tryz.func94 (by kernel_rfl) tq
def kZ (L at_ n:Int):Bool:=decide (0<=n)&&decide (0<=at_)&&decide (at_<=L)&&decide (n<=L - at_)
theorem Bp (L:Nat) (n k:Int):eH L n [k]=if 256<L then 2 else if kZ L k n=true then 0 else 4:=by
 simp only [eH,dl,kZ,Q4,List.any_nil]
 grind
theorem nv (L k n:Int):kZ L k n=true ↔ 0<=n/\0<=k/\k<=L/\n<=L - k:=by
 simp [kZ,R0]
def pB (n:Int):List Int×Int:=if n<0\/256<n then ([],4) else (List.replicate n.toNat 0,0)
def EK:Spec:={ Ts:=[ty_I],Rs:=[.own 45 bo,.dat ty_I],pre:=fun _=>True,F:=pB }
def tY:Prop :=
  ∀ (x:Int),am .i64 x->True->((decide (x<0)||decide (256<x))=true->([]:List Int)=(pB x).1/\4=(pB x).2/\True)/\((decide (x<0)||decide (256<x))=false->0<=x/\x.toNat * 8<=aF/\List.replicate x.toNat (0:Int)=(pB x).1/\0=(pB x).2/\True)
theorem A3:tY:=by
 unfold tY;intro n hw _;simp only [am,pB,aF] at *
 grind
theorem Fk:EK.ok Tryz.prog 54:=aA (ann:=cn) ap Tryz.func54 (by kernel_rfl) A3
def l7 (a:List Int) (t:Nat) (ys:List Int) (k:Nat):List Int:=a.take t++(ys.take k++a.drop (t+k))
def eP (a:List Int) (at_ n v:Int) (k:Int):List Int:=l7 a at_.toNat (List.replicate n.toNat v) k.toNat
theorem Fd (a:List Int) (t:Nat) (ys:List Int):l7 a t ys 0=a:=by simp [l7]
theorem zJ (a:List Int) (t:Nat) (ys:List Int) (k:Nat) (h:t+ys.length<=a.length) (hk:k<=ys.length):(l7 a t ys k).length=a.length:=by
 simp [l7]; omega
theorem IC (a:List Int) (t:Nat) (ys:List Int) (k:Nat) (v:Int) (h:t+ys.length<=a.length) (hk:k<ys.length) (hv:ys.getD k 0=v):(l7 a t ys k).set (t+k) v=l7 a t ys (k+1):=by
 have hv:v=ys[k]:=by rw [<- hv]; simp [hk]
 subst hv;unfold l7;have l1:(a.take t).length=t:=by simp; omega
 have l2:(ys.take k).length=k:=by simp; omega
 rw [Rl _ _ (by omega),l1,Rl _ _ (by omega),l2,show t+k - t - k=0 by omega,QN (show t+k<a.length by omega),List.set_cons_zero,
  Qh hk,show t+(k+1)=t+k+1 by omega,PT]
 rfl
theorem FQ (a:List Int) (at_ n v:Int):eP a at_ n v 0=a:=Fd _ _ _
theorem FR (a:List Int) (at_ n v k:Int) (h0:0<=at_) (h1:at_+n<=a.length) (k0:0<=k) (k1:k<n):(eP a at_ n v k).set (at_+k).toNat v=eP a at_ n v (k+1):=by
 unfold eP;rw [show (at_+k).toNat=at_.toNat+k.toNat by omega,show (k+1).toNat=k.toNat+1 by omega];exact IC _ _ _ _ _ (by simp; omega) (by simp; omega) (by simp [show k.toNat<n.toNat by omega])
theorem fY (a:List Int) (at_ n v k:Int) (h0:0<=at_) (h1:at_+n<=a.length) (k0:0<=k) (k1:k<=n):(eP a at_ n v k).length=a.length :=
 zJ _ _ _ _ (by simp; omega) (by simp; omega)
def iv (a:List Int) (at_ n v:Int):List Int×Int:=if eH a.length n [at_]=0 then (eP a at_ n v n,0) else ([],eH a.length n [at_])
def DJ:Nat->Option LoopGen
 | 6=>some { rd:=[.dat 0 (.arr bo),.dat 1 ty_I,.dat 2 ty_I,.dat 3 bo],wr:=[11],A:=fun ((a,at_,n,v):List Int×Int×Int×Int)=>{ cs:=[.own 11 45 bo,.dat 24 ty_I],inv:=fun ((out,k):List Int×Int)=>0<=k/\k<=n/\0<=at_/\at_+n<=a.length/\a.length<=256/\out=eP a at_ n v k,mu:=fun ((_,k):List Int×Int)=>(n - k).toNat } }
 | _=>none
def Bv:Spec:={ Ts:=[.arr bo,ty_I,ty_I,bo],Rs:=[.own 45 bo,.dat ty_I],pre:=fun _=>True,F:=fun ((a,at_,n,v):List Int×Int×Int×Int)=>iv a at_ n v }
def rz:Prop :=
  ∀ (x:List Int×Int×Int×Int),(x.1.length * 8<=aF/\∀ (x_1:Int),x_1∈x.1->am .u64 x_1)/\am .i64 x.2.1/\am .i64 x.2.2.1/\am .u64 x.2.2.2->True->True/\(decide (eH x.1.length x.2.2.1 [x.2.1]≠0)=true->([]:List Int)=(iv x.1 x.2.1 x.2.2.1 x.2.2.2).1/\eH x.1.length x.2.2.1 [x.2.1]=(iv x.1 x.2.1 x.2.2.1 x.2.2.2).2/\True)/\(decide (eH x.1.length x.2.2.1 [x.2.1]≠0)=false->True/\((0:Int)<=0/\0<=x.2.2.1/\0<=x.2.1/\x.2.1+x.2.2.1<=(x.1.length:Int)/\x.1.length<=256/\x.1=eP x.1 x.2.1 x.2.2.1 x.2.2.2 0)/\∀ (x_1:List Int×Int),0<=x_1.2/\x_1.2<=x.2.2.1/\0<=x.2.1/\x.2.1+x.2.2.1<=(x.1.length:Int)/\x.1.length<=256/\x_1.1=eP x.1 x.2.1 x.2.2.1 x.2.2.2 x_1.2->(decide (x_1.2<x.2.2.1)=true->am .i64 (x.2.1+x_1.2)/\0<=x.2.1+x_1.2/\x.2.1+x_1.2<(x_1.1.length:Int)/\(x.2.1+x_1.2).toNat<x_1.1.length/\am .i64 (x_1.2+1)/\(0<=x_1.2+1/\x_1.2+1<=x.2.2.1/\0<=x.2.1/\x.2.1+x.2.2.1<=(x.1.length:Int)/\x.1.length<=256/\x_1.1.set (x.2.1+x_1.2).toNat x.2.2.2=eP x.1 x.2.1 x.2.2.1 x.2.2.2 (x_1.2+1))/\(x.2.2.1 - (x_1.2+1)).toNat<(x.2.2.1 - x_1.2).toNat)/\(decide (x_1.2<x.2.2.1)=false->x_1.1=(iv x.1 x.2.1 x.2.2.1 x.2.2.2).1/\0=(iv x.1 x.2.1 x.2.2.1 x.2.2.2).2/\True))
theorem yC:rz:=by
 unfold rz;intro ⟨a,at_,n,v⟩ ⟨⟨ha,_⟩,h1,h2,_⟩ _;simp only [iv,Bp] at *;by_cases cl:256<a.length
 ·simp [cl]
 by_cases ok:kZ a.length at_ n=true
 ·obtain ⟨o1,o2,o3,o4⟩:=(nv _ _ _).1 ok;simp only [cl,ok,if_true,P5];refine ⟨trivial,fun h=>by simp at h,fun _=>⟨trivial,⟨by omega,o1,o2,by omega,by omega,(FQ _ _ _ _).symm⟩,fun ⟨out,k⟩ ⟨k0,k1,_,q1,q2,q3⟩=>⟨fun hk=>?_,fun hk=>?_⟩⟩⟩
  ·have hk:k<n:=by simpa using hk
   simp only at *;have hl:out.length=a.length:=by rw [q3]; exact fY _ _ _ _ _ o2 q1 k0 k1
   refine ⟨by simp only [am]; omega,by omega,by omega,by omega,by simp only [am]; omega,⟨by omega,by omega,o2,q1,q2,?_⟩,by omega⟩;rw [q3];exact FR _ _ _ _ _ o2 q1 k0 hk
  ·have hk:¬ k<n:=by simpa using hk
   simp only at *;have:k=n:=by omega
   subst this;simp [q3]
 ·simp [cl,ok]
theorem mH:Bv.ok Tryz.prog 218:=aA (ann:=DJ) (ac zO (ac bA ap)) Tryz.func218 (by kernel_rfl) yC
end
section
def ah {α:Type} (f:α->Bool):Int->List α->Int
 | _,[]=>-1
 | k,x::l=>if f x then k else ah f (k+1) l
theorem im {α:Type} (f:α->Bool):∀ (l:List α) (k:Int),ah f k l=-1\/(k<=ah f k l/\ah f k l<k+l.length)
 | [],_=>.inl rfl
 | x::l,k=>by
  have ih:=im f l (k+1);simp only [ah,Pz];split
  ·right; omega
  ·rcases ih with h | h
   ·exact .inl h
   ·right; omega
theorem eh {α:Type} (f:α->Bool) (_:α) (l:List α) (k:Int) (_:0<=k):ah f k l<k+l.length:=by
 rcases im f l k with h | h <;> omega
theorem gX {α:Type} (f:α->Bool) (d:α):∀ (l:List α) (k:Int),0<=ah f k l->0<=k->f (l.getD (ah f k l - k).toNat d)=true
 | [],_,h,_=>by simp [ah] at h
 | x::l,k,h,hk=>by
  have hr:=im f l (k+1);have ih:=gX f d l (k+1);simp only [ah] at h |-;split at h
  ·rename_i hx;rw [if_pos hx];simpa using hx
  ·rename_i hx;rw [if_neg hx];have:=ih h (by omega);rw [show (ah f (k+1) l - k).toNat=(ah f (k+1) l - (k+1)).toNat+1 by omega];simpa using this
theorem ei {α:Type} (f:α->Bool):∀ (l:List α) (k:Int),0<=k->(decide (0<=ah f k l)=l.any f)
 | [],_,_=>rfl
 | x::l,k,h=>by
  have ih:=ei f l (k+1) (by omega);simp only [ah,Q4];by_cases hx:f x=true
  ·simp [hx,h]
  ·have hx:f x=false:=by simpa using hx
   simp only [hx,PG,P5,Re];exact ih
end
section
abbrev ew:=Int×Int×Int×Bool
def ae (h:ew):Int:=1+h.1+h.2.1
def af (h:ew):Int :=
 if h.1<0\/256<h.1\/h.2.1<0\/256<h.2.1\/h.2.2.1<0\/65535<h.2.2.1 then 4
 else if h.2.2.2=true/\(h.1≠0\/h.2.2.1≠0) then 3
 else if 256<ae h then 2 else 0
def aR (h:ew):Int:=h.1+65536 * h.2.1+4294967296 * h.2.2.1+(if h.2.2.2 then 281474976710656 else 0)
def ba (v:Int):ew:=(v % 65536,v / 65536 % 65536,v / 4294967296 % 65536,decide (v / 281474976710656=1))
def bh (v:Int):Bool:=v / 281474976710656<=1&&af (ba v) == 0
def bL:ew:=(0,0,0,false)
theorem bG {h:ew} (h0:af h=0):0<=h.1/\0<=h.2.1/\0<=h.2.2.1/\h.2.2.1<=65535/\1+h.1+h.2.1<=256/\(h.2.2.2=true->h.1=0/\h.2.2.1=0):=by
 grind [af,ae]
theorem wD {h:ew} (h0:af h=0) :
  (↑((IntKind.u64.wrap h.1).toNat ||| (IntKind.u64.wrap (IntKind.u64.wrap h.2.1 * 2 ^ Int.toNat 16)).toNat):Int)=h.1+65536 * h.2.1 /\
  (↑((h.1+65536 * h.2.1).toNat ||| (IntKind.u64.wrap (IntKind.u64.wrap h.2.2.1 * 2 ^ Int.toNat 32)).toNat):Int)=h.1+65536 * h.2.1+4294967296 * h.2.2.1 /\
  (↑((h.1+65536 * h.2.1+4294967296 * h.2.2.1).toNat ||| Int.toNat 281474976710656):Int)=h.1+65536 * h.2.1+4294967296 * h.2.2.1+281474976710656:=by
 obtain ⟨h1,h2,h3,h4,h5,_⟩:=bG h0;rw [fA h1 (by omega),fA h2 (by omega),fA h3 (by omega)];have e1:(h.2.1 * 2 ^ Int.toNat 16)=h.2.1 * 65536:=rfl;have e2:(h.2.2.1 * 2 ^ Int.toNat 32)=h.2.2.1 * 4294967296:=rfl;rw [e1,e2,fA (by omega) (by omega),fA (by omega) (by omega)];have k1:=sZ (i:=16) h1 h2 (by omega);have k2:=sZ (i:=32) (a:=h.1+65536 * h.2.1) (by omega) h3 (by omega);have k3:=sZ (i:=48) (a:=h.1+65536 * h.2.1+4294967296 * h.2.2.1) (b:=1) (by omega) (by omega) (by omega);refine ⟨?_,?_,?_⟩
 ·rw [show h.2.1 * 65536=h.2.1 * 2 ^ 16 from rfl,k1]; omega
 ·rw [show h.2.2.1 * 4294967296=h.2.2.1 * 2 ^ 32 from rfl,k2]; omega
 ·rw [show Int.toNat 281474976710656=((1:Int) * 2 ^ 48).toNat from rfl,k3]; rfl
theorem Dc {v:Int} (h0:0<=v) :
  (IntKind.i64.wrap ↑(v.toNat &&& Int.toNat 65535),IntKind.i64.wrap ↑((v / 2 ^ Int.toNat 16).toNat &&& Int.toNat 65535),IntKind.i64.wrap ↑((v / 2 ^ Int.toNat 32).toNat &&& Int.toNat 65535),
   decide (((v.toNat &&& Int.toNat 281474976710656:Nat):Int)≠0))=(v % 65536,v / 65536 % 65536,v / 4294967296 % 65536,decide (v / 281474976710656 % 2=1)):=by
 have e:Int.toNat 65535=2 ^ 16 - 1:=rfl;have e2:Int.toNat 281474976710656=2 ^ 48:=rfl;have e3:v / 2 ^ Int.toNat 16=v / 65536:=rfl;have e4:v / 2 ^ Int.toNat 32=v / 4294967296:=rfl;rw [e,e2,e3,e4,mN h0,mN (by omega),mN (by omega),Lm h0];rw [show (2:Int) ^ 16=65536 from rfl,show (2:Int) ^ 48=281474976710656 from rfl];rw [jF (by omega) (by omega),jF (by omega) (by omega),jF (by omega) (by omega)];congr 3;apply RZ.2;omega
theorem yg {v:Int} (h1:v / 281474976710656<=1) (h0:0<=v):(v % 65536,v / 65536 % 65536,v / 4294967296 % 65536,decide (v / 281474976710656 % 2=1))=ba v:=by
 simp only [ba];congr 3;apply RZ.2;omega
def BN:Spec:={ Ts:=[eX],Rs:=[.dat ty_I],pre:=fun (h:ew)=>am .i64 (1+h.1)/\am .i64 (1+h.1+h.2.1),F:=ae }
def rO:Prop :=
  ∀ (x:Int×Int×Int×Bool),am .i64 x.1/\am .i64 x.2.1/\am .i64 x.2.2.1/\True->am .i64 (1+x.1)/\am .i64 (1+x.1+x.2.1)->am .i64 (1+x.1)/\am .i64 (1+x.1+x.2.1)/\1+x.1+x.2.1=ae x/\True
theorem yR:rO:=by
 unfold rO;intro x h1 h2;exact ⟨h2.1,h2.2,rfl,trivial⟩
theorem sh:BN.ok Tryz.prog 79:=aA (ann:=cn) ap Tryz.func79 (by kernel_rfl) yR
def zt:Spec:={ Ts:=[eX],Rs:=[.dat ty_I],pre:=fun _=>True,F:=af }
def pm:Prop :=
  ∀ (x:Int×Int×Int×Bool),am .i64 x.1/\am .i64 x.2.1/\am .i64 x.2.2.1/\True->True->((decide ((if x.2.2.1<if x.2.1<x.1 then x.2.1 else x.1 then x.2.2.1 else if x.2.1<x.1 then x.2.1 else x.1)<0)||decide (256<if x.1<x.2.1 then x.2.1 else x.1)||decide (65535<x.2.2.1))=true->4=af x/\True)/\((decide ((if x.2.2.1<if x.2.1<x.1 then x.2.1 else x.1 then x.2.2.1 else if x.2.1<x.1 then x.2.1 else x.1)<0)||decide (256<if x.1<x.2.1 then x.2.1 else x.1)||decide (65535<x.2.2.1))=false->((x.2.2.2&&(decide (0<x.1)||decide (0<x.2.2.1)))=true->3=af x/\True)/\((x.2.2.2&&(decide (0<x.1)||decide (0<x.2.2.1)))=false->(am .i64 (1+x.1)/\am .i64 (1+x.1+x.2.1))/\(decide (256<ae x)=true->2=af x/\True)/\(decide (256<ae x)=false->0=af x/\True)))
theorem vX:pm:=by
 unfold pm;intro x h1 _
 grind [am,af,ae]
theorem js:zt.ok Tryz.prog 78:=aA (ann:=cn) (ac sh ap) Tryz.func78 (by kernel_rfl) vX
def BL:Spec:={ Ts:=[eX],Rs:=[.dat bo,.dat ty_I],pre:=fun _=>True,F:=fun (h:ew)=>((if af h=0 then aR h else 0,af h):Int×Int) }
def rM:Prop :=
  ∀ (x:Int×Int×Int×Bool),am .i64 x.1/\am .i64 x.2.1/\am .i64 x.2.2.1/\True->True->True/\(decide (af x≠0)=true->((0:Int)=if af x=0 then aR x else (0:Int))/\af x=af x/\True)/\(decide (af x≠0)=false->(0:Int)<=16/\16<(↑IntKind.u64.bits:Int)/\(0:Int)<=32/\32<(↑IntKind.u64.bits:Int)/\(x.2.2.2=true->((↑((↑((↑((IntKind.u64.wrap x.1).toNat ||| (IntKind.u64.wrap (IntKind.u64.wrap x.2.1 * 2 ^ Int.toNat 16)).toNat):Int).toNat ||| (IntKind.u64.wrap (IntKind.u64.wrap x.2.2.1 * 2 ^ Int.toNat 32)).toNat):Int).toNat ||| Int.toNat 281474976710656):Int)=if af x=0 then aR x else (0:Int))/\0=af x/\True)/\(x.2.2.2=false->((↑((↑((IntKind.u64.wrap x.1).toNat ||| (IntKind.u64.wrap (IntKind.u64.wrap x.2.1 * 2 ^ Int.toNat 16)).toNat):Int).toNat ||| (IntKind.u64.wrap (IntKind.u64.wrap x.2.2.1 * 2 ^ Int.toNat 32)).toNat):Int)=if af x=0 then aR x else (0:Int))/\0=af x/\True))
theorem yP:rM:=by
 unfold rM;intro x hw _;refine ⟨trivial,fun h=>?_,fun h=>?_⟩
 ·have:af x≠0:=by simpa using h
  simp [this]
 ·have h0:af x=0:=by simpa using h
  obtain ⟨b1,b2,b3⟩:=wD h0;refine ⟨by decide,by decide,by decide,by decide,fun hf=>?_,fun hf=>?_⟩
  ·rw [b1,b2,b3,if_pos h0,h0];exact ⟨by simp [aR,hf],rfl,trivial⟩
  ·rw [b1,b2,if_pos h0,h0];exact ⟨by simp [aR,hf],rfl,trivial⟩
theorem iV:BL.ok Tryz.prog 56:=aA (ann:=cn) (ac js ap) Tryz.func56 (by kernel_rfl) yP
def zr:Spec:={ Ts:=[eX],Rs:=[.dat ty_I,.dat ty_I],pre:=fun _=>True,F:=fun (h:ew)=>((if af h=0 then ae h else 0,af h):Int×Int) }
def pk:Prop :=
  ∀ (x:Int×Int×Int×Bool),am .i64 x.1/\am .i64 x.2.1/\am .i64 x.2.2.1/\True->True->True/\(decide (af x≠0)=true->((0:Int)=if af x=0 then ae x else (0:Int))/\af x=af x/\True)/\(decide (af x≠0)=false->(am .i64 (1+x.1)/\am .i64 (1+x.1+x.2.1))/\(ae x=if af x=0 then ae x else (0:Int))/\0=af x/\True)
theorem vW:pk:=by
 unfold pk;intro x hw _;refine ⟨trivial,fun h=>?_,fun h=>?_⟩
 ·have:af x≠0:=by simpa using h
  simp [this]
 ·have h0:af x=0:=by simpa using h
  obtain ⟨b1,b2,b3,b4,b5,_⟩:=bG h0;simp only [am,h0,if_true,RB];omega
theorem jr:zr.ok Tryz.prog 20:=aA (ann:=cn) (ac js (ac sh ap)) Tryz.func20 (by kernel_rfl) vW
def BM:Spec:={ Ts:=[bo],Rs:=[.dat eX,.dat ty_I],pre:=fun _=>True,F:=fun (v:Int)=>((if bh v then ba v else bL,if bh v then 0 else 3):ew×Int) }
def rN:Prop :=
  ∀ (x:Int),am .u64 x->True->(0:Int)<=16/\16<(↑IntKind.u64.bits:Int)/\(0:Int)<=32/\32<(↑IntKind.u64.bits:Int)/\(0:Int)<=49/\49<(↑IntKind.u64.bits:Int)/\(decide (x / 2 ^ Int.toNat (49:Int)≠0)=false->True)/\((decide (x / 2 ^ Int.toNat (49:Int)≠0)||decide (af (IntKind.i64.wrap (↑(x.toNat &&& Int.toNat 65535):Int),IntKind.i64.wrap (↑((x / 2 ^ Int.toNat 16).toNat &&& Int.toNat 65535):Int),IntKind.i64.wrap (↑((x / 2 ^ Int.toNat 32).toNat &&& Int.toNat 65535):Int),decide ((↑(x.toNat &&& Int.toNat 281474976710656):Int)≠0))≠0))=true->((0,0,0,false)=if bh x=true then ba x else bL)/\((3:Int)=if bh x=true then (0:Int) else (3:Int))/\True)/\((decide (x / 2 ^ Int.toNat (49:Int)≠0)||decide (af (IntKind.i64.wrap (↑(x.toNat &&& Int.toNat 65535):Int),IntKind.i64.wrap (↑((x / 2 ^ Int.toNat 16).toNat &&& Int.toNat 65535):Int),IntKind.i64.wrap (↑((x / 2 ^ Int.toNat 32).toNat &&& Int.toNat 65535):Int),decide ((↑(x.toNat &&& Int.toNat 281474976710656):Int)≠0))≠0))=false->((IntKind.i64.wrap (↑(x.toNat &&& Int.toNat 65535):Int),IntKind.i64.wrap (↑((x / 2 ^ Int.toNat 16).toNat &&& Int.toNat 65535):Int),IntKind.i64.wrap (↑((x / 2 ^ Int.toNat 32).toNat &&& Int.toNat 65535):Int),decide ((↑(x.toNat &&& Int.toNat 281474976710656):Int)≠0))=if bh x=true then ba x else bL)/\((0:Int)=if bh x=true then (0:Int) else (3:Int))/\True)
theorem yQ:rN:=by
 unfold rN;intro x hw _;have hx:0<=x:=hw.1;rw [Dc hx,show x / 2 ^ Int.toNat 49=x / 562949953421312 from rfl];refine ⟨by decide,by decide,by decide,by decide,by decide,by decide,fun _=>trivial,fun h=>?_,fun h=>?_⟩
 ·have:bh x=false:=by
   rcases Int.lt_or_le 1 (x / 281474976710656) with h1 | h1
   ·simp [bh,show ¬ x / 281474976710656<=1 by omega]
   ·rw [yg h1 hx] at h;have e:x / 562949953421312=0:=by omega
    simp only [e,ne_eq,not_true_eq_false,decide_false,Re,Qk] at h;simp [bh,h]
  simp [this,bL]
 ·have h1:x / 281474976710656<=1:=by
   have:x / 562949953421312=0:=by
    apply Qm;intro hne;simp [hne] at h
   omega
  rw [yg h1 hx] at h |-
  have:bh x=true:=by
   simp only [QG,Qw,ne_eq,Classical.not_not] at h;simp [bh,h1,h.2]
  simp [this]
theorem CS:BM.ok Tryz.prog 222:=aA (ann:=cn) (ac js ap) Tryz.func222 (by kernel_rfl) yQ
end
section
abbrev cE:Ty:=.pair ty_I eX
abbrev ax:=Int×ew
theorem fH {v:Int} (h:bh v=true):1<=ae (ba v)/\ae (ba v)<=256:=by
 simp only [bh,Px,RP] at h;have:=bG h.2;unfold ae;omega
def spotsS (at_:Int) (l:List Int):Option (List ax) :=
 match l with
 | []=>some []
 | v::r=>if _h:bh v=true/\ae (ba v)<=((v::r).length:Int) then (spotsS (at_+ae (ba v)) ((v::r).drop (ae (ba v)).toNat)).map ((at_,ba v)::·) else none
termination_by l.length
decreasing_by
 have:=fH _h.1;simp only [PW,Pz];omega
def aa (a:List Int):List ax×Int:=if 256<a.length then ([],2) else match spotsS 0 a with
 | none=>([],3)
 | some l=>(l,0)
theorem d6 {at_:Int} {v:Int} {r:List Int} (h:bh v=true) (h2:ae (ba v)<=((v::r).length:Int)) :
  spotsS at_ (v::r)=(spotsS (at_+ae (ba v)) ((v::r).drop (ae (ba v)).toNat)).map ((at_,ba v)::·):=by
 rw [spotsS,dif_pos ⟨h,h2⟩]
theorem gM {at_:Int} {v:Int} {r:List Int} (h:¬ (bh v=true/\ae (ba v)<=((v::r).length:Int))):spotsS at_ (v::r)=none:=by
 rw [spotsS,dif_neg h]
theorem xa (at_:Int) (l:List Int) (r:List ax) (h:spotsS at_ l=some r):∀ s∈r,at_<=s.1/\s.1+ae s.2<=at_+l.length/\af s.2=0:=by
 induction at_,l using spotsS.induct generalizing r with
 | case1 at_ =>
  simp only [spotsS,Ps] at h;subst h;simp
 | case2 at_ v l hv ih =>
  rw [d6 hv.1 hv.2] at h;obtain ⟨r',hr,rfl⟩:=Py.1 h;have hl:=fH hv.1
  have hf:af (ba v)=0:=by
   have:=hv.1;simp only [bh,Px,RP] at this;exact this.2
  intro s hs;rcases PD.1 hs with rfl | hs
  ·have:=hv.2;exact ⟨by simp,by simp only; omega,hf⟩
  ·obtain ⟨h1,h2,h3⟩:=ih r' hr s hs;rw [PW] at h2;have:=hv.2;exact ⟨by omega,by omega,h3⟩
 | case3 at_ v l hv =>
  rw [gM hv] at h;cases h
theorem wg (at_:Int) (l:List Int) (r:List ax) (h:spotsS at_ l=some r):r.length<=l.length:=by
 induction at_,l using spotsS.induct generalizing r with
 | case1 at_ =>
  simp only [spotsS,Ps] at h;subst h;simp
 | case2 at_ v l hv ih =>
  rw [d6 hv.1 hv.2] at h;obtain ⟨r',hr,rfl⟩:=Py.1 h;have hl:=fH hv.1;have:=ih r' hr;rw [PW] at this;simp only [Pz] at *;omega
 | case3 at_ v l hv =>
  rw [gM hv] at h;cases h
theorem cI (a:List Int):(aa a).1.length<=256:=by
 unfold aa;split
 ·simp
 ·cases e:spotsS 0 a with
  | none=>simp
  | some l =>
   have:=wg 0 a l e;simp only;omega
def AO:Nat->Option LoopGen
 | 5=>some { rd:=[.dat 0 (.arr bo)],A:=fun (a:List Int)=>{ cs:=[.own 4 202 cE,.dat 5 ty_I],inv:=fun ((out,at_):List ax×Int)=>a.length<=256/\0<=at_/\at_<=a.length/\out.length<=at_/\spotsS 0 a=(spotsS at_ (a.drop at_.toNat)).map (out++·),mu:=fun ((_,at_):List ax×Int)=>(a.length - at_).toNat } }
 | _=>none
def zi:Spec:={ Ts:=[.arr bo],Rs:=[.own 202 cE,.dat ty_I],pre:=fun _=>True,F:=aa }
def pb:Prop :=
  ∀ (x:List Int),(x.length * 8<=aF/\∀ (x_1:Int),x_1∈x->am .u64 x_1)->True->(decide (256<(x.length:Int))=true->([]:List (Int×Int×Int×Int×Bool))=(aa x).1/\2=(aa x).2/\True)/\(decide (256<(x.length:Int))=false->(x.length<=256/\(0:Int)<=0/\0<=(x.length:Int)/\(↑(0:Nat):Int)<=0/\spotsS 0 x=Option.map (fun (x:List ax)=>([]:List (Int×Int×Int×Int×Bool))++x) (spotsS 0 (List.drop (Int.toNat 0) x)))/\∀ (x_1:List (Int×Int×Int×Int×Bool)×Int),x.length<=256/\0<=x_1.2/\x_1.2<=(x.length:Int)/\(x_1.1.length:Int)<=x_1.2/\spotsS 0 x=Option.map (fun (x:List ax)=>x_1.1++x) (spotsS x_1.2 (List.drop x_1.2.toNat x))->(decide (x_1.2<(x.length:Int))=true->0<=x_1.2/\x_1.2<(x.length:Int)/\True/\True/\(decide ((if bh (x.getD x_1.2.toNat 0)=true then (0:Int) else (3:Int))≠0)=false->am .i64 ((x.length:Int) - x_1.2))/\((decide ((if bh (x.getD x_1.2.toNat 0)=true then (0:Int) else (3:Int))≠0)||decide ((x.length:Int) - x_1.2<if af (if bh (x.getD x_1.2.toNat 0)=true then ba (x.getD x_1.2.toNat 0) else bL)=0 then ae (if bh (x.getD x_1.2.toNat 0)=true then ba (x.getD x_1.2.toNat 0) else bL) else (0:Int)))=true->([]:List (Int×Int×Int×Int×Bool))=(aa x).1/\3=(aa x).2/\True)/\((decide ((if bh (x.getD x_1.2.toNat 0)=true then (0:Int) else (3:Int))≠0)||decide ((x.length:Int) - x_1.2<if af (if bh (x.getD x_1.2.toNat 0)=true then ba (x.getD x_1.2.toNat 0) else bL)=0 then ae (if bh (x.getD x_1.2.toNat 0)=true then ba (x.getD x_1.2.toNat 0) else bL) else (0:Int)))=false->(x_1.1.length+[(x_1.2,if bh (x.getD x_1.2.toNat 0)=true then ba (x.getD x_1.2.toNat 0) else bL)].length) * (8+(8+(8+(8+8))))<=aF/\am .i64 (x_1.2+if af (if bh (x.getD x_1.2.toNat 0)=true then ba (x.getD x_1.2.toNat 0) else bL)=0 then ae (if bh (x.getD x_1.2.toNat 0)=true then ba (x.getD x_1.2.toNat 0) else bL) else (0:Int))/\(x.length<=256/\(0<=x_1.2+if af (if bh (x.getD x_1.2.toNat 0)=true then ba (x.getD x_1.2.toNat 0) else bL)=0 then ae (if bh (x.getD x_1.2.toNat 0)=true then ba (x.getD x_1.2.toNat 0) else bL) else (0:Int))/\(x_1.2+if af (if bh (x.getD x_1.2.toNat 0)=true then ba (x.getD x_1.2.toNat 0) else bL)=0 then ae (if bh (x.getD x_1.2.toNat 0)=true then ba (x.getD x_1.2.toNat 0) else bL) else (0:Int))<=(x.length:Int)/\((↑(x_1.1++[(x_1.2,if bh (x.getD x_1.2.toNat 0)=true then ba (x.getD x_1.2.toNat 0) else bL)]).length:Int)<=x_1.2+if af (if bh (x.getD x_1.2.toNat 0)=true then ba (x.getD x_1.2.toNat 0) else bL)=0 then ae (if bh (x.getD x_1.2.toNat 0)=true then ba (x.getD x_1.2.toNat 0) else bL) else (0:Int))/\spotsS 0 x=Option.map (fun (x_2:List ax)=>x_1.1++[(x_1.2,if bh (x.getD x_1.2.toNat 0)=true then ba (x.getD x_1.2.toNat 0) else bL)]++x_2) (spotsS (x_1.2+if af (if bh (x.getD x_1.2.toNat 0)=true then ba (x.getD x_1.2.toNat 0) else bL)=0 then ae (if bh (x.getD x_1.2.toNat 0)=true then ba (x.getD x_1.2.toNat 0) else bL) else (0:Int)) (List.drop (x_1.2+if af (if bh (x.getD x_1.2.toNat 0)=true then ba (x.getD x_1.2.toNat 0) else bL)=0 then ae (if bh (x.getD x_1.2.toNat 0)=true then ba (x.getD x_1.2.toNat 0) else bL) else (0:Int)).toNat x)))/\((x.length:Int) - (x_1.2+if af (if bh (x.getD x_1.2.toNat 0)=true then ba (x.getD x_1.2.toNat 0) else bL)=0 then ae (if bh (x.getD x_1.2.toNat 0)=true then ba (x.getD x_1.2.toNat 0) else bL) else (0:Int))).toNat<((x.length:Int) - x_1.2).toNat))/\(decide (x_1.2<(x.length:Int))=false->x_1.1=(aa x).1/\0=(aa x).2/\True))
theorem vO:pb:=by
 unfold pb;intro a ⟨hb,hw⟩ _;by_cases cl:256<a.length
 ·have e:aa a=([],2):=by unfold aa; rw [if_pos cl]
  simp [e];omega
 have eF:aa a=match spotsS 0 a with | none=>([],3) | some l=>(l,0):=by unfold aa; rw [if_neg cl]
 refine ⟨fun h=>by simp at h; omega,fun _=>⟨⟨by omega,by omega,by omega,by simp,by simp⟩,fun ⟨out,k⟩ ⟨_,h0,h1,h2,h3⟩=>⟨fun hlt=>?_,fun hge=>?_⟩⟩⟩
 ·have hlt:k<(a.length:Int):=by simpa using hlt
  simp only at *;rw [bg (0:Int) h0 hlt] at h3;have hdl:(((a.getD k.toNat 0::a.drop (k+1).toNat).length:Nat):Int)=a.length - k:=by rw [Pz,PW]; omega
  have hdd:∀ n:Int,0<=n->(a.getD k.toNat 0::a.drop (k+1).toNat).drop n.toNat=a.drop (k+n).toNat:=fun n hn=>by
   rw [<- bg (0:Int) h0 hlt,QZ];congr 1;omega
  generalize a.getD k.toNat 0=v at *;refine ⟨h0,hlt,trivial,trivial,fun _=>by simp only [am]; omega,fun hc=>?_,fun hc=>?_⟩
  ·have hn:¬ (bh v=true/\ae (ba v)<=((v::a.drop (k+1).toNat).length:Int)):=by
    rintro ⟨g1,g2⟩
    have hf:af (ba v)=0:=by
     have:=g1;simp only [bh,Px,RP] at this;exact this.2
    rw [if_pos g1,if_pos g1,if_pos hf] at hc;simp at hc;omega
   rw [gM hn] at h3;rw [eF,h3];exact ⟨rfl,rfl,trivial⟩
  ·have g1:bh v=true:=by
    cases hv:bh v
    ·rw [hv] at hc; simp at hc
    ·rfl
   have hf:af (ba v)=0:=by
    have:=g1;simp only [bh,Px,RP] at this;exact this.2
   rw [if_pos g1,if_pos g1,if_pos hf] at hc;simp at hc;have hl:=fH g1;rw [d6 g1 (by omega),hdd _ (by omega),Option.map_map] at h3;rw [if_pos g1,if_pos hf];unfold aF;simp only [PC,Pz,P4,am];refine ⟨by omega,by omega,⟨by omega,by omega,by omega,by omega,?_⟩,by omega⟩;rw [h3];congr 1;funext x;simp
 ·have hge:¬ k<(a.length:Int):=by simpa using hge
  simp only at *;rw [b6 hge] at h3;simp only [spotsS,Qb,Qi] at h3;rw [eF,h3];exact ⟨rfl,rfl,trivial⟩
theorem fS:zi.ok Tryz.prog 161:=aA (ann:=AO) (ac CS (ac jr ap)) Tryz.func161 (by kernel_rfl) vO
def bc (a:List Int) (s:ax):List Int:=(a.take (s.1+1+s.2.1).toNat).drop (s.1+1).toNat
def dm (a:List Int) (s:ax):Prop:=0<=s.1/\0<=s.2.1/\0<=s.2.2.1/\s.1+1+s.2.1+s.2.2.1<=a.length
def Bw:Spec:={ Ts:=[.arr bo,cE],Rs:=[.dat (.arr bo)],al:=true,pre:=fun ((a,s):List Int×ax)=>a.length<=256/\dm a s,F:=fun ((a,s):List Int×ax)=>bc a s }
def rA:Prop :=
  ∀ (x:List Int×Int×Int×Int×Int×Bool),(x.1.length * 8<=aF/\∀ (x_1:Int),x_1∈x.1->am .u64 x_1)/\am .i64 x.2.1/\am .i64 x.2.2.1/\am .i64 x.2.2.2.1/\am .i64 x.2.2.2.2.1/\True->x.1.length<=256/\dm x.1 x.2->am .i64 (x.2.1+1)/\am .i64 (x.2.1+1)/\am .i64 (x.2.1+1+x.2.2.1)/\0<=x.2.1+1/\x.2.1+1<=x.2.1+1+x.2.2.1/\x.2.1+1+x.2.2.1<=(x.1.length:Int)/\List.drop (x.2.1+1).toNat (List.take (x.2.1+1+x.2.2.1).toNat x.1)=bc x.1 x.2/\True
theorem yD:rA:=by
 unfold rA;intro ⟨a,s⟩ _ ⟨h,h1,h2,h3,h4⟩;simp only [am,bc] at *;exact ⟨by omega,by omega,by omega,by omega,by omega,by omega,trivial,trivial⟩
theorem r9:Bw.ok Tryz.prog 224:=aA (ann:=cn) ap Tryz.func224 (by kernel_rfl) yD
def et (m:List (Int×Int)) (i:Int):List ax->List (Int×Int)
 | []=>m
 | s::l=>et (if s.2.2.2.2=true then m else cR m (s.1+1) i) (i+1) l
def cH (l:List ax):List (Int×Int):=et [(0,-1)] 0 l
def wV:Nat->Option LoopGen
 | 3=>some { rd:=[.dat 8 (.arr cE)],A:=fun (l:List ax)=>{ cs:=[.map 6 .u64 ty_I,.dat 10 ty_I],inv:=fun ((m,i):List (Int×Int)×Int)=>0<=i/\i<=l.length/\(∀ s∈l,0<=s.1/\s.1<=256)/\et m i (l.drop i.toNat)=cH l,mu:=fun ((_,i):List (Int×Int)×Int)=>(l.length - i).toNat } }
 | _=>none
def wh:Spec:={ Ts:=[.arr cE],Rs:=[.map .u64 ty_I],pre:=fun (l:List ax)=>∀ s∈l,0<=s.1/\s.1<=256,F:=cH }
def nx:Prop :=
  ∀ (x:List (Int×Int×Int×Int×Bool)),(x.length * (8+(8+(8+(8+8))))<=aF/\∀ (x_1:Int×Int×Int×Int×Bool),x_1∈x->am .i64 x_1.1/\am .i64 x_1.2.1/\am .i64 x_1.2.2.1/\am .i64 x_1.2.2.2.1/\True)->(∀ (s:ax),s∈x->0<=s.1/\s.1<=256)->((0:Int)<=0/\0<=(x.length:Int)/\(∀ (s:ax),s∈x->0<=s.1/\s.1<=256)/\et (cR ([]:List (Int×Int)) 0 (-1)) 0 (List.drop (Int.toNat 0) x)=cH x)/\∀ (x_1:List (Int×Int)×Int),0<=x_1.2/\x_1.2<=(x.length:Int)/\(∀ (s:ax),s∈x->0<=s.1/\s.1<=256)/\et x_1.1 x_1.2 (List.drop x_1.2.toNat x)=cH x->(decide (x_1.2<(x.length:Int))=true->0<=x_1.2/\x_1.2<(x.length:Int)/\((!(x.getD x_1.2.toNat (0,0,0,0,false)).2.2.2.2)=true->am .u64 (IntKind.u64.wrap (x.getD x_1.2.toNat (0,0,0,0,false)).1+1)/\am .i64 (x_1.2+1)/\(0<=x_1.2+1/\x_1.2+1<=(x.length:Int)/\(∀ (s:ax),s∈x->0<=s.1/\s.1<=256)/\et (cR x_1.1 (IntKind.u64.wrap (x.getD x_1.2.toNat (0,0,0,0,false)).1+1) x_1.2) (x_1.2+1) (List.drop (x_1.2+1).toNat x)=cH x)/\((x.length:Int) - (x_1.2+1)).toNat<((x.length:Int) - x_1.2).toNat)/\((!(x.getD x_1.2.toNat (0,0,0,0,false)).2.2.2.2)=false->am .i64 (x_1.2+1)/\(0<=x_1.2+1/\x_1.2+1<=(x.length:Int)/\(∀ (s:ax),s∈x->0<=s.1/\s.1<=256)/\et x_1.1 (x_1.2+1) (List.drop (x_1.2+1).toNat x)=cH x)/\((x.length:Int) - (x_1.2+1)).toNat<((x.length:Int) - x_1.2).toNat))/\(decide (x_1.2<(x.length:Int))=false->x_1.1=cH x/\True)
theorem th:nx:=by
 unfold nx;intro l ⟨hb,_⟩ hp;refine ⟨⟨by omega,by omega,hp,rfl⟩,fun ⟨m,i⟩ ⟨h0,h1,_,h2⟩=>⟨fun hlt=>?_,fun hge=>?_⟩⟩
 ·have hlt:i<(l.length:Int):=by simpa using hlt
  simp only at *;have hs:=hp _ (aH ((0,0,0,0,false):ax) h0 hlt);rw [bg ((0,0,0,0,false):ax) h0 hlt] at h2;simp only [et] at h2;generalize l.getD i.toNat (0,0,0,0,false)=s at *;unfold aF at hb;refine ⟨h0,hlt,fun hc=>?_,fun hc=>?_⟩
  ·have hc:¬ s.2.2.2.2=true:=by simpa using hc
   rw [if_neg hc] at h2;rw [fA (by omega) (by omega)];simp only [am];exact ⟨by omega,by omega,⟨by omega,by omega,hp,h2⟩,by omega⟩
  ·have hc:s.2.2.2.2=true:=by simpa using hc
   rw [if_pos hc] at h2;simp only [am];exact ⟨by omega,⟨by omega,by omega,hp,h2⟩,by omega⟩
 ·rw [b6 (by simpa using hge)] at h2;exact ⟨h2,trivial⟩
theorem wu:wh.ok Tryz.prog 223:=aA (ann:=wV) ap Tryz.func223 (by kernel_rfl) th
def gC (m:List (Int×Int)) (a:List Int) (l:List ax):Bool:=l.all fun s=>(bc a s).all fun v=>(aC m v).isSome
def ai (a:List Int):List ax×List (Int×Int)×Int :=
 if (aa a).2≠0 then ([],[],(aa a).2) else if gC (cH (aa a).1) a (aa a).1=true then ((aa a).1,cH (aa a).1,0) else ([],[],5)
theorem ng {a:List Int} (h:(aa a).2=0):a.length<=256/\∀ s∈(aa a).1,dm a s/\af s.2=0:=by
 unfold aa at h |-;split at h
 ·simp at h
 rename_i cl;rw [if_neg cl];refine ⟨by omega,?_⟩;cases e:spotsS 0 a with
 | none=>rw [e] at h; simp at h
 | some l =>
  intro s hs;obtain ⟨h1,h2,h3⟩:=xa 0 a l e s hs;have:=bG h3;unfold ae at h2;exact ⟨⟨h1,this.1,this.2.1,by omega⟩,h3⟩
def wX:Nat->Option LoopGen
 | 6=>some { rd:=[.own 24 202 cE,.dat 0 (.arr bo),.map 23 .u64 ty_I],A:=fun ((l,a,m):List ax×List Int×List (Int×Int))=>{ cs:=[.dat 26 ty_I],inv:=fun (i:Int)=>0<=i/\i<=l.length/\a.length<=256/\(∀ s∈l,dm a s)/\gC m a (l.drop i.toNat)=gC m a l,mu:=fun (i:Int)=>(l.length - i).toNat } }
 | 9=>some { rd:=[.dat 32 (.arr bo),.map 23 .u64 ty_I],A:=fun ((rs,m):List Int×List (Int×Int))=>{ cs:=[.dat 34 ty_I],inv:=fun (j:Int)=>0<=j/\j<=rs.length/\((rs.drop j.toNat).all fun v=>(aC m v).isSome)=(rs.all fun v=>(aC m v).isSome),mu:=fun (j:Int)=>(rs.length - j).toNat } }
 | _=>none
def wj:Spec:={ Ts:=[.arr bo],Rs:=[.dat (.arr cE),.dat (.map .u64 ty_I),.dat ty_I],al:=true,pre:=fun _=>True,F:=ai }
def nz:Prop :=
  ∀ (x:List Int),(fun (v1:type_of% (cH (aa x).1))=>(x.length * 8<=aF/\∀ (x_1:Int),x_1∈x->am .u64 x_1)->True->True/\(decide ((aa x).2≠0)=true->([]:List (Int×Int×Int×Int×Bool))=(ai x).1/\([]:List (Int×Int))=(ai x).2.1/\(aa x).2=(ai x).2.2/\True)/\(decide ((aa x).2≠0)=false->(∀ (s:ax),s∈(aa x).1->0<=s.1/\s.1<=256)/\((0:Int)<=0/\0<=(↑(aa x).1.length:Int)/\x.length<=256/\(∀ (s:ax),s∈(aa x).1->dm x s)/\gC v1 x (List.drop (Int.toNat 0) (aa x).1)=gC v1 x (aa x).1)/\∀ (x_1:Int),(fun (v0:type_of% (bc x ((aa x).1.getD x_1.toNat (0,0,0,0,false))))=>0<=x_1/\x_1<=(↑(aa x).1.length:Int)/\x.length<=256/\(∀ (s:ax),s∈(aa x).1->dm x s)/\gC v1 x (List.drop x_1.toNat (aa x).1)=gC v1 x (aa x).1->(decide (x_1<(↑(aa x).1.length:Int))=true->0<=x_1/\x_1<(↑(aa x).1.length:Int)/\x_1.toNat<(aa x).1.length/\(x.length<=256/\dm x ((aa x).1.getD x_1.toNat (0,0,0,0,false)))/\((0:Int)<=0/\0<=(v0.length:Int)/\((List.drop (Int.toNat 0) v0).all fun (v:Int)=>(aC v1 v).isSome)=v0.all fun (v:Int)=>(aC v1 v).isSome)/\∀ (x_2:Int),(0<=x_2/\x_2<=(v0.length:Int)/\((List.drop x_2.toNat v0).all fun (v:Int)=>(aC v1 v).isSome)=v0.all fun (v:Int)=>(aC v1 v).isSome)->(decide (x_2<(v0.length:Int))=true->0<=x_2/\x_2<(v0.length:Int)/\((!(aC v1 (v0.getD x_2.toNat 0)).isSome)=true->([]:List (Int×Int×Int×Int×Bool))=(ai x).1/\([]:List (Int×Int))=(ai x).2.1/\5=(ai x).2.2/\True)/\((!(aC v1 (v0.getD x_2.toNat 0)).isSome)=false->am .i64 (x_2+1)/\(0<=x_2+1/\x_2+1<=(v0.length:Int)/\((List.drop (x_2+1).toNat v0).all fun (v:Int)=>(aC v1 v).isSome)=v0.all fun (v:Int)=>(aC v1 v).isSome)/\((v0.length:Int) - (x_2+1)).toNat<((v0.length:Int) - x_2).toNat))/\(decide (x_2<(v0.length:Int))=false->am .i64 (x_1+1)/\(0<=x_1+1/\x_1+1<=(↑(aa x).1.length:Int)/\x.length<=256/\(∀ (s:ax),s∈(aa x).1->dm x s)/\gC v1 x (List.drop (x_1+1).toNat (aa x).1)=gC v1 x (aa x).1)/\((↑(aa x).1.length:Int) - (x_1+1)).toNat<((↑(aa x).1.length:Int) - x_1).toNat))/\(decide (x_1<(↑(aa x).1.length:Int))=false->(aa x).1=(ai x).1/\cH (aa x).1=(ai x).2.1/\0=(ai x).2.2/\True)) (bc x ((aa x).1.getD x_1.toNat (0,0,0,0,false))))) (cH (aa x).1)
theorem tj:nz:=by
 unfold nz;intro a ⟨hb,hw⟩ _;have hlen:=cI a;have hin:=ng (a:=a);have hF:ai a=if (aa a).2≠0 then ([],[],(aa a).2) else if gC (cH (aa a).1) a (aa a).1=true then ((aa a).1,cH (aa a).1,0) else ([],[],5):=rfl
 generalize cH (aa a).1=m at *;generalize (aa a).1=l at *;refine ⟨trivial,fun hc=>?_,fun hc=>?_⟩
 ·have hc:(aa a).2≠0:=by simpa using hc
  rw [hF,if_pos hc];exact ⟨rfl,rfl,rfl,trivial⟩
 have hc:(aa a).2=0:=by simpa using hc
 rw [if_neg (by omega)] at hF;obtain ⟨hal,hsp⟩:=hin hc;refine ⟨fun s hs=>?_,⟨by omega,by omega,hal,fun s hs=>(hsp s hs).1,rfl⟩,fun i ⟨h0,h1,_,_,h2⟩=>⟨fun hlt=>?_,fun hge=>?_⟩⟩
 ·have:=(hsp s hs).1;unfold dm at this;omega
 ·have hlt:i<(l.length:Int):=by simpa using hlt
  have hs:=hsp _ (aH ((0,0,0,0,false):ax) h0 hlt);rw [bg ((0,0,0,0,false):ax) h0 hlt] at h2;simp only [gC,Qv] at h2;generalize l.getD i.toNat (0,0,0,0,false)=s at *;have hrl:(bc a s).length<=256:=by simp only [bc,PW,PM]; omega
  generalize bc a s=rs at *;refine ⟨h0,hlt,by omega,⟨hal,hs.1⟩,⟨by omega,by omega,rfl⟩,fun j ⟨g0,g1,g2⟩=>⟨fun hlt=>?_,fun hge=>?_⟩⟩
  ·have hlt:j<(rs.length:Int):=by simpa using hlt
   rw [bg (0:Int) g0 hlt] at g2;simp only [Qv] at g2;generalize rs.getD j.toNat 0=v at *;refine ⟨g0,hlt,fun hv=>?_,fun hv=>?_⟩
   ·have hv:(aC m v).isSome=false:=by simpa using hv
    rw [hv,Q8] at g2;rw [<- g2,Q8] at h2;rw [hF,if_neg (by unfold gC; rw [<- h2]; simp)];exact ⟨rfl,rfl,rfl,trivial⟩
   ·have hv:(aC m v).isSome=true:=by simpa using hv
    rw [hv,QL] at g2;simp only [am];exact ⟨by omega,⟨by omega,by omega,g2⟩,by omega⟩
  ·rw [b6 (by simpa using hge),RH] at g2;rw [<- g2,QL] at h2;simp only [am];exact ⟨by omega,⟨by omega,by omega,hal,fun s hs=>(hsp s hs).1,h2⟩,by omega⟩
 ·rw [b6 (by simpa using hge)] at h2;have h2:gC m a l=true:=by rw [<- h2]; rfl
  rw [hF,if_pos h2];exact ⟨rfl,rfl,rfl,trivial⟩
theorem nH:wj.ok Tryz.prog 162:=aA (ann:=wX) (ac fS (ac wu (ac r9 ap))) Tryz.func162 (by kernel_rfl) tj
def zj:Spec:={ Ts:=[.arr bo],Rs:=[.dat ty_I],pre:=fun _=>True,F:=fun (a:List Int)=>(ai a).2.2 }
def pc:Prop :=
  ∀ (x:List Int),(x.length * 8<=aF/\∀ (x_1:Int),x_1∈x->am .u64 x_1)->True->True/\(ai x).2.2=(ai x).2.2/\True
theorem vP:pc:=by
 unfold pc;intro a _ _;simp
theorem fT:zj.ok Tryz.prog 148:=aA (ann:=cn) (ac nH ap) Tryz.func148 (by kernel_rfl) vP
def jJ (a:List Int) (s:ax):List Int:=(a.take (s.1+1+s.2.1+s.2.2.1).toNat).drop (s.1+1+s.2.1).toNat
def gy (a:List Int) (s:ax) (m:List (Int×Int)):Obj:=(s.2.2.2.1,(bc a s).map (fun v=>(aC m v).getD 0),jJ a s,s.2.2.2.2)
def wW:Nat->Option LoopGen
 | 3=>some { rd:=[.dat 20 (.arr bo),.dat 2 (.map .u64 ty_I),.box 4 cE],A:=fun ((rs,m,s):List Int×List (Int×Int)×ax)=>{ cs:=[.boxS 7 [.dat ty_I,.own 3 ty_I,.dat (.arr bo),.dat .bool],.dat 22 ty_I],inv:=fun ((o,j):Obj×Int)=>0<=j/\j<=rs.length/\rs.length<=256/\o=(s.2.2.2.1,(rs.take j.toNat).map (fun v=>(aC m v).getD 0),[],s.2.2.2.2),mu:=fun ((_,j):Obj×Int)=>(rs.length - j).toNat } }
 | _=>none
def wi:Spec:={ Ts:=[.arr bo,cE,.map .u64 ty_I],Rs:=[.dat Ez],al:=true,pre:=fun ((a,s,_):List Int×ax×List (Int×Int))=>a.length<=256/\dm a s,F:=fun ((a,s,m):List Int×ax×List (Int×Int))=>gy a s m }
def ny:Prop :=
  ∀ (x:List Int×(Int×Int×Int×Int×Bool)×List (Int×Int)),(fun (v0:type_of% (bc x.1 x.2.1))=>((x.1.length * 8<=aF/\∀ (x_1:Int),x_1∈x.1->am .u64 x_1)/\(am .i64 x.2.1.1/\am .i64 x.2.1.2.1/\am .i64 x.2.1.2.2.1/\am .i64 x.2.1.2.2.2.1/\True)/\∀ (x_1:Int×Int),x_1∈x.2.2->am .u64 x_1.1/\am .i64 x_1.2)->x.1.length<=256/\dm x.1 x.2.1->(x.1.length<=256/\dm x.1 x.2.1)/\((0:Int)<=0/\0<=(v0.length:Int)/\v0.length<=256/\(x.2.1.2.2.2.1,([]:List Int),([]:List Int),x.2.1.2.2.2.2)=(x.2.1.2.2.2.1,List.map (fun (v:Int)=>(aC x.2.2 v).getD 0) (List.take (Int.toNat 0) v0),([]:List Int),x.2.1.2.2.2.2))/\∀ (x_1:(Int×List Int×List Int×Bool)×Int),0<=x_1.2/\x_1.2<=(v0.length:Int)/\v0.length<=256/\x_1.1=(x.2.1.2.2.2.1,List.map (fun (v:Int)=>(aC x.2.2 v).getD 0) (List.take x_1.2.toNat v0),([]:List Int),x.2.1.2.2.2.2)->(decide (x_1.2<(v0.length:Int))=true->0<=x_1.2/\x_1.2<(v0.length:Int)/\(x_1.1.2.1.length+[(aC x.2.2 (v0.getD x_1.2.toNat 0)).getD 0].length) * 8<=aF/\am .i64 (x_1.2+1)/\(0<=x_1.2+1/\x_1.2+1<=(v0.length:Int)/\v0.length<=256/\(x_1.1.1,x_1.1.2.1++[(aC x.2.2 (v0.getD x_1.2.toNat 0)).getD 0],x_1.1.2.2)=(x.2.1.2.2.2.1,List.map (fun (v:Int)=>(aC x.2.2 v).getD 0) (List.take (x_1.2+1).toNat v0),([]:List Int),x.2.1.2.2.2.2))/\((v0.length:Int) - (x_1.2+1)).toNat<((v0.length:Int) - x_1.2).toNat)/\(decide (x_1.2<(v0.length:Int))=false->am .i64 (x.2.1.1+1)/\am .i64 (x.2.1.1+1+x.2.1.2.1)/\am .i64 (x.2.1.1+1+x.2.1.2.1+x.2.1.2.2.1)/\0<=x.2.1.1+1+x.2.1.2.1/\x.2.1.1+1+x.2.1.2.1<=x.2.1.1+1+x.2.1.2.1+x.2.1.2.2.1/\x.2.1.1+1+x.2.1.2.1+x.2.1.2.2.1<=(x.1.length:Int)/\True/\(x_1.1.1,x_1.1.2.1,List.drop (x.2.1.1+1+x.2.1.2.1).toNat (List.take (x.2.1.1+1+x.2.1.2.1+x.2.1.2.2.1).toNat x.1),x_1.1.2.2.2)=gy x.1 x.2.1 x.2.2/\True)) (bc x.1 x.2.1)
theorem ti:ny:=by
 unfold ny;intro ⟨a,s,m⟩ _ ⟨hal,hs⟩;have hs':=hs;unfold dm at hs';simp only at *;have hrl:(bc a s).length<=256:=by simp only [bc,PW,PM]; omega
 have hF:gy a s m=(s.2.2.2.1,(bc a s).map (fun v=>(aC m v).getD 0),jJ a s,s.2.2.2.2):=rfl;have hB:jJ a s=(a.take (s.1+1+s.2.1+s.2.2.1).toNat).drop (s.1+1+s.2.1).toNat:=rfl;rw [hF,hB];generalize bc a s=rs at *;refine ⟨⟨hal,hs⟩,⟨by omega,by omega,hrl,by simp⟩,fun ⟨o,j⟩ ⟨g0,g1,_,g2⟩=>⟨fun hlt=>?_,fun hge=>?_⟩⟩
 ·have hlt:j<(rs.length:Int):=by simpa using hlt
  simp only at g0 g1 g2;have e:=a7 (0:Int) g0 hlt;have hl:o.2.1.length=j.toNat:=by rw [g2]; simp; omega
  unfold aF;simp only [am,Pz,P4];refine ⟨g0,hlt,by omega,by omega,⟨by omega,by omega,hrl,?_⟩,by omega⟩;rw [e,Qn,g2];rfl
 ·have hge:¬ j<(rs.length:Int):=by simpa using hge
  simp only at g0 g1 g2;rw [bE hge] at g2;simp only [am];refine ⟨by omega,by omega,by omega,by omega,by omega,by omega,trivial,?_,trivial⟩;rw [g2]
theorem wv:wi.ok Tryz.prog 165:=aA (ann:=wW) (ac r9 (ac bA ap)) Tryz.func165 (by kernel_rfl) ti
theorem bJ {a:List Int} (h:(ai a).2.2=0):a.length<=256/\(ai a).1.length<=256/\(ai a).1=(aa a).1/\(aa a).2=0/\(ai a).2.1=cH (aa a).1/\gC (cH (aa a).1) a (aa a).1=true/\∀ s∈(ai a).1,dm a s/\af s.2=0:=by
 unfold ai at h |-;by_cases h1:(aa a).2≠0
 ·rw [if_pos h1] at h;exact absurd h h1
 ·rw [if_neg h1] at h |-;have h1:(aa a).2=0:=by omega
  by_cases h2:gC (cH (aa a).1) a (aa a).1=true
  ·rw [if_pos h2];exact ⟨(ng h1).1,cI a,rfl,h1,rfl,h2,(ng h1).2⟩
  ·rw [if_neg h2] at h;simp at h
def EW:Spec:={ Ts:=[.arr cE,.fn cE .bool],Rs:=[.dat ty_I],pre:=fun ((l,g):List ax×(ax->Prop)×(ax->Bool))=>∀ s∈l,g.1 s,F:=fun ((l,g):List ax×(ax->Prop)×(ax->Bool))=>ah g.2 0 l }
def Gg:Nat->Option LoopGen
 | 2=>some { rd:=[.dat 0 (.arr cE),.dat 1 (.fn cE .bool)],A:=fun ((l,g):List ax×(ax->Prop)×(ax->Bool))=>{ cs:=[.dat 8 ty_I],inv:=fun (i:Int)=>0<=i/\i<=l.length/\ah g.2 i (l.drop i.toNat)=ah g.2 0 l,mu:=fun (i:Int)=>(l.length - i).toNat } }
 | _=>none
def uf:Prop :=
  ∀ (x:List (Int×Int×Int×Int×Bool)×(Int×Int×Int×Int×Bool->Prop)×(Int×Int×Int×Int×Bool->Bool)),(x.1.length * (8+(8+(8+(8+8))))<=aF/\∀ (x_1:Int×Int×Int×Int×Bool),x_1∈x.1->am .i64 x_1.1/\am .i64 x_1.2.1/\am .i64 x_1.2.2.1/\am .i64 x_1.2.2.2.1/\True)/\True->(∀ (s:ax),s∈x.1->x.2.1 s)->((0:Int)<=0/\0<=(x.1.length:Int)/\ah x.2.2 0 (List.drop (Int.toNat 0) x.1)=ah x.2.2 0 x.1)/\∀ (x_1:Int),0<=x_1/\x_1<=(x.1.length:Int)/\ah x.2.2 x_1 (List.drop x_1.toNat x.1)=ah x.2.2 0 x.1->(decide (x_1<(x.1.length:Int))=true->0<=x_1/\x_1<(x.1.length:Int)/\x.2.1 (x.1.getD x_1.toNat (0,0,0,0,false))/\(x.2.2 (x.1.getD x_1.toNat (0,0,0,0,false))=true->x_1=ah x.2.2 0 x.1/\True)/\(x.2.2 (x.1.getD x_1.toNat (0,0,0,0,false))=false->am .i64 (x_1+1)/\(0<=x_1+1/\x_1+1<=(x.1.length:Int)/\ah x.2.2 (x_1+1) (List.drop (x_1+1).toNat x.1)=ah x.2.2 0 x.1)/\((x.1.length:Int) - (x_1+1)).toNat<((x.1.length:Int) - x_1).toNat))/\(decide (x_1<(x.1.length:Int))=false->(-1)=ah x.2.2 0 x.1/\True)
theorem Bd:uf:=by
 unfold uf;intro ⟨l,g⟩ ⟨⟨hl,_⟩,_⟩ hp;unfold aF at *;refine ⟨⟨by omega,by omega,by simp⟩,fun i ⟨h0,h1,h2⟩=>⟨fun hlt=>?_,fun hge=>?_⟩⟩
 ·have hlt:i<(l.length:Int):=by simpa using hlt
  have e:=bg ((0,0,0,0,false):ax) h0 hlt;have hm:=hp _ (aH ((0,0,0,0,false):ax) h0 hlt);simp only at *;rw [e] at h2;simp only [ah] at h2;refine ⟨h0,hlt,hm,fun hc=>?_,fun hc=>?_⟩
  ·rw [if_pos hc] at h2;exact ⟨h2,trivial⟩
  ·rw [if_neg (by rw [hc]; simp)] at h2;exact ⟨by simp only [am]; omega,⟨by omega,by omega,h2⟩,by omega⟩
 ·rw [b6 (by simpa using hge)] at h2;exact ⟨h2,trivial⟩
theorem og:EW.ok Tryz.prog 163:=aA (ann:=Gg) ap Tryz.func163 (by kernel_rfl) Bd
def Is:Spec:={ Ts:=[cE,.ref ty_I],Rs:=[.dat .bool],pre:=fun _=>True,F:=fun ((s,at_):ax×Int)=>decide (s.1=at_) }
def xL:Prop :=
  ∀ (x:(Int×Int×Int×Int×Bool)×Int),(am .i64 x.1.1/\am .i64 x.1.2.1/\am .i64 x.1.2.2.1/\am .i64 x.1.2.2.2.1/\True)/\am .i64 x.2->True->decide (x.1.1=x.2)=decide (x.1.1=x.2)/\True
theorem Es:xL:=by
 unfold xL;intro ⟨s,at_⟩ _ _;simp
theorem I0:Is.ok Tryz.prog 164:=aA (ann:=cn) ap Tryz.func164 (by kernel_rfl) Es
def iI:Obj:=(0,[],[],false)
def gZ (a:List Int) (at_:Int):Obj×Int :=
 if (ai a).2.2≠0 then (iI,(ai a).2.2) else if ah (fun s=>decide (s.1=at_)) 0 (ai a).1<0 then (iI,5)
 else (gy a ((ai a).1.getD (ah (fun s=>decide (s.1=at_)) 0 (ai a).1).toNat (0,0,0,0,false)) (ai a).2.1,0)
def H1:Spec:={ Ts:=[.arr bo,ty_I],Rs:=[.dat Ez,.dat ty_I],al:=true,pre:=fun _=>True,F:=fun ((a,at_):List Int×Int)=>gZ a at_ }
def xm:Prop :=
  ∀ (x:List Int×Int),(x.1.length * 8<=aF/\∀ (x_1:Int),x_1∈x.1->am .u64 x_1)/\am .i64 x.2->True->True/\(decide ((ai x.1).2.2≠0)=true->(0,([]:List Int),([]:List Int),false)=(gZ x.1 x.2).1/\(ai x.1).2.2=(gZ x.1 x.2).2/\True)/\(decide ((ai x.1).2.2≠0)=false->(∀ (s:ax),s∈(ai x.1).1->(fun (_:Int×Int×Int×Int×Bool)=>True,fun (x_1:Int×Int×Int×Int×Bool)=>decide (x_1.1=x.2)).1 s)/\(decide (ah (fun (x_1:Int×Int×Int×Int×Bool)=>decide (x_1.1=x.2)) 0 (ai x.1).1<0)=true->(0,([]:List Int),([]:List Int),false)=(gZ x.1 x.2).1/\5=(gZ x.1 x.2).2/\True)/\(decide (ah (fun (x_1:Int×Int×Int×Int×Bool)=>decide (x_1.1=x.2)) 0 (ai x.1).1<0)=false->0<=ah (fun (x_1:Int×Int×Int×Int×Bool)=>decide (x_1.1=x.2)) 0 (ai x.1).1/\ah (fun (x_1:Int×Int×Int×Int×Bool)=>decide (x_1.1=x.2)) 0 (ai x.1).1<(↑(ai x.1).1.length:Int)/\(x.1.length<=256/\dm x.1 ((ai x.1).1.getD (ah (fun (x_1:Int×Int×Int×Int×Bool)=>decide (x_1.1=x.2)) 0 (ai x.1).1).toNat (0,0,0,0,false)))/\gy x.1 ((ai x.1).1.getD (ah (fun (x_1:Int×Int×Int×Int×Bool)=>decide (x_1.1=x.2)) 0 (ai x.1).1).toNat (0,0,0,0,false)) (ai x.1).2.1=(gZ x.1 x.2).1/\0=(gZ x.1 x.2).2/\True))
theorem D3:xm:=by
 unfold xm;intro ⟨a,at_⟩ _ _;have hin:=bJ (a:=a)
 have hF:gZ a at_=if (ai a).2.2≠0 then (iI,(ai a).2.2) else if ah (fun s=>decide (s.1=at_)) 0 (ai a).1<0 then (iI,5)
   else (gy a ((ai a).1.getD (ah (fun s=>decide (s.1=at_)) 0 (ai a).1).toNat (0,0,0,0,false)) (ai a).2.1,0):=rfl
 simp only at *;generalize (ai a).1=l at *;have hlt:=eh (fun s:ax=>decide (s.1=at_)) (0,0,0,0,false) l 0 (by omega);rw [hF];refine ⟨trivial,fun hc=>?_,fun hc=>⟨fun _ _=>trivial,fun h2=>?_,fun h2=>?_⟩⟩
 ·have hc:(ai a).2.2≠0:=by simpa using hc
  rw [if_pos hc];exact ⟨rfl,rfl,trivial⟩
 ·have hc:(ai a).2.2=0:=by simpa using hc
  rw [if_neg (by omega),if_pos (Pt h2)];exact ⟨rfl,rfl,trivial⟩
 ·have hc:(ai a).2.2=0:=by simpa using hc
  have h2:=Pu h2;rw [if_neg (by omega),if_neg h2];obtain ⟨hal,hll,_,_,_,_,hsp⟩:=hin hc;have hlt':ah (fun s:ax=>decide (s.1=at_)) 0 l<(l.length:Int):=by omega
  have h2':0<=ah (fun s:ax=>decide (s.1=at_)) 0 l:=Int.not_lt.1 h2;exact ⟨h2',hlt',⟨hal,(hsp _ (aH _ h2' hlt')).1⟩,rfl,rfl,trivial⟩
theorem lj:H1.ok Tryz.prog 93:=aA (ann:=cn) (ac nH (ac wv (ac og (ac I0 ap)))) Tryz.func93 (by kernel_rfl) D3
end
section
def cU:LoopGen:={ rd:=[],A:=fun _=>{ cs:=[],inv:=fun _=>True,mu:=fun _=>0 } }
def dq (l:List Int) (n:Int):Int:=ah (fun x=>decide (x=n)) 0 l
def cu (l:List Int) (n:Int):Bool:=l.any fun x=>decide (x=n)
def MM:Spec:={ Ts:=[.arr ty_I,ty_I],Rs:=[.dat ty_I],pre:=fun _=>True,F:=fun ((l,v):List Int×Int)=>dq l v }
def NE:Nat->Option LoopGen
 | 2=>some { rd:=[.dat 0 (.arr ty_I),.dat 1 ty_I],A:=fun ((l,v):List Int×Int)=>{ cs:=[.dat 8 ty_I],inv:=fun (i:Int)=>0<=i/\i<=l.length/\ah (fun x=>decide (x=v)) i (l.drop i.toNat)=dq l v,mu:=fun (i:Int)=>(l.length - i).toNat } }
 | _=>none
def GG:Prop :=
  ∀ (x:List Int×Int),(x.1.length * 8<=aF/\∀ (x_1:Int),x_1∈x.1->am .i64 x_1)/\am .i64 x.2->True->((0:Int)<=0/\0<=(x.1.length:Int)/\ah (fun (x_1:Int)=>decide (x_1=x.2)) 0 (List.drop (Int.toNat 0) x.1)=dq x.1 x.2)/\∀ (x_1:Int),0<=x_1/\x_1<=(x.1.length:Int)/\ah (fun (x_2:Int)=>decide (x_2=x.2)) x_1 (List.drop x_1.toNat x.1)=dq x.1 x.2->(decide (x_1<(x.1.length:Int))=true->0<=x_1/\x_1<(x.1.length:Int)/\(decide (x.2=x.1.getD x_1.toNat 0)=true->x_1=dq x.1 x.2/\True)/\(decide (x.2=x.1.getD x_1.toNat 0)=false->am .i64 (x_1+1)/\(0<=x_1+1/\x_1+1<=(x.1.length:Int)/\ah (fun (x_2:Int)=>decide (x_2=x.2)) (x_1+1) (List.drop (x_1+1).toNat x.1)=dq x.1 x.2)/\((x.1.length:Int) - (x_1+1)).toNat<((x.1.length:Int) - x_1).toNat))/\(decide (x_1<(x.1.length:Int))=false->(-1)=dq x.1 x.2/\True)
theorem JX:GG:=by
 unfold GG;intro ⟨l,n⟩ ⟨⟨hb,_⟩,_⟩ _;unfold aF at hb;refine ⟨⟨by omega,by omega,rfl⟩,fun i ⟨h0,h1,h2⟩=>⟨fun hlt=>?_,fun hge=>?_⟩⟩
 ·have hlt:i<(l.length:Int):=by simpa using hlt
  simp only at *;rw [bg (0:Int) h0 hlt] at h2;simp only [ah] at h2;simp only [am];refine ⟨h0,hlt,fun hc=>?_,fun hc=>?_⟩
  ·rw [if_pos (QA (Pt hc).symm)] at h2;exact ⟨h2,trivial⟩
  ·rw [if_neg (fun e=>Pu hc (Pt e).symm)] at h2;exact ⟨by omega,⟨by omega,by omega,h2⟩,by omega⟩
 ·rw [b6 (by simpa using hge)] at h2;exact ⟨h2,trivial⟩
theorem GW:MM.ok Tryz.prog 108:=aA (ann:=NE) ap Tryz.func108 (by kernel_rfl) JX
def MN:Spec:={ Ts:=[.arr ty_I,ty_I],Rs:=[.dat .bool],pre:=fun _=>True,F:=fun ((l,v):List Int×Int)=>cu l v }
def GH:Prop :=
  ∀ (x:List Int×Int),(x.1.length * 8<=aF/\∀ (x_1:Int),x_1∈x.1->am .i64 x_1)/\am .i64 x.2->True->True/\decide (0<=dq x.1 x.2)=cu x.1 x.2/\True
theorem JY:GH:=by
 unfold GH;intro ⟨l,v⟩ _ _;exact ⟨trivial,ei _ l 0 (by omega),trivial⟩
theorem lG:MN.ok Tryz.prog 39:=aA (ann:=cn) (ac GW ap) Tryz.func39 (by kernel_rfl) JY
def Kz:Spec:={ Ts:=[.arr ty_I,.fn ty_I .bool],Rs:=[.dat ty_I],pre:=fun ((l,g):List Int×(Int->Prop)×(Int->Bool))=>∀ s∈l,g.1 s,F:=fun ((l,g):List Int×(Int->Prop)×(Int->Bool))=>ah g.2 0 l }
def Mn:Nat->Option LoopGen
 | 2=>some { rd:=[.dat 0 (.arr ty_I),.dat 1 (.fn ty_I .bool)],A:=fun ((l,g):List Int×(Int->Prop)×(Int->Bool))=>{ cs:=[.dat 8 ty_I],inv:=fun (i:Int)=>0<=i/\i<=l.length/\ah g.2 i (l.drop i.toNat)=ah g.2 0 l,mu:=fun (i:Int)=>(l.length - i).toNat } }
 | _=>none
def Cy:Prop :=
  ∀ (x:List Int×(Int->Prop)×(Int->Bool)),(x.1.length * 8<=aF/\∀ (x_1:Int),x_1∈x.1->am .i64 x_1)/\True->(∀ (s:Int),s∈x.1->x.2.1 s)->((0:Int)<=0/\0<=(x.1.length:Int)/\ah x.2.2 0 (List.drop (Int.toNat 0) x.1)=ah x.2.2 0 x.1)/\∀ (x_1:Int),0<=x_1/\x_1<=(x.1.length:Int)/\ah x.2.2 x_1 (List.drop x_1.toNat x.1)=ah x.2.2 0 x.1->(decide (x_1<(x.1.length:Int))=true->0<=x_1/\x_1<(x.1.length:Int)/\x.2.1 (x.1.getD x_1.toNat 0)/\(x.2.2 (x.1.getD x_1.toNat 0)=true->x_1=ah x.2.2 0 x.1/\True)/\(x.2.2 (x.1.getD x_1.toNat 0)=false->am .i64 (x_1+1)/\(0<=x_1+1/\x_1+1<=(x.1.length:Int)/\ah x.2.2 (x_1+1) (List.drop (x_1+1).toNat x.1)=ah x.2.2 0 x.1)/\((x.1.length:Int) - (x_1+1)).toNat<((x.1.length:Int) - x_1).toNat))/\(decide (x_1<(x.1.length:Int))=false->(-1)=ah x.2.2 0 x.1/\True)
theorem HP:Cy:=by
 unfold Cy;intro ⟨l,g⟩ ⟨⟨hl,_⟩,_⟩ hp;unfold aF at *;refine ⟨⟨by omega,by omega,by simp⟩,fun i ⟨h0,h1,h2⟩=>⟨fun hlt=>?_,fun hge=>?_⟩⟩
 ·have hlt:i<(l.length:Int):=by simpa using hlt
  have e:=bg (0:Int) h0 hlt;have hm:=hp _ (aH (0:Int) h0 hlt);simp only at *;rw [e] at h2;simp only [ah] at h2;refine ⟨h0,hlt,hm,fun hc=>?_,fun hc=>?_⟩
  ·rw [if_pos hc] at h2;exact ⟨h2,trivial⟩
  ·rw [if_neg (by rw [hc]; simp)] at h2;exact ⟨by simp only [am]; omega,⟨by omega,by omega,h2⟩,by omega⟩
 ·rw [b6 (by simpa using hge)] at h2;exact ⟨h2,trivial⟩
theorem CP:Kz.ok Tryz.prog 107:=aA (ann:=Mn) ap Tryz.func107 (by kernel_rfl) HP
def MT:Spec:={ Ts:=[.arr ty_I,.fn ty_I .bool],Rs:=[.dat .bool],pre:=fun ((l,g):List Int×(Int->Prop)×(Int->Bool))=>∀ s∈l,g.1 s,F:=fun ((l,g):List Int×(Int->Prop)×(Int->Bool))=>l.any g.2 }
def GM:Prop :=
  ∀ (x:List Int×(Int->Prop)×(Int->Bool)),(x.1.length * 8<=aF/\∀ (x_1:Int),x_1∈x.1->am .i64 x_1)/\True->(∀ (s:Int),s∈x.1->x.2.1 s)->(∀ (s:Int),s∈x.1->x.2.1 s)/\decide (0<=ah x.2.2 0 x.1)=x.1.any x.2.2/\True
theorem J3:GM:=by
 unfold GM;intro ⟨l,g⟩ _ hp;exact ⟨hp,ei _ l 0 (by omega),trivial⟩
theorem py:MT.ok Tryz.prog 37:=aA (ann:=cn) (ac CP ap) Tryz.func37 (by kernel_rfl) J3
def aK:List Int->Bool
 | x::y::l=>decide (x<y)&&aK (y::l)
 | _=>true
theorem o7:∀ {l:List Int},l.length<=1->aK l=true
 | [],_=>rfl
 | [_],_=>rfl
 | _::_::_,h=>by simp at h
def DO:Nat->Option LoopGen
 | 2=>some { rd:=[.dat 0 (.arr ty_I)],A:=fun (l:List Int)=>{ cs:=[.dat 3 ty_I],inv:=fun (i:Int)=>1<=i/\i<=l.length+1/\aK (l.drop (i - 1).toNat)=aK l,mu:=fun (i:Int)=>(l.length - i).toNat } }
 | _=>none
def Kq:Spec:={ Ts:=[.arr ty_I],Rs:=[.dat .bool],pre:=fun _=>True,F:=aK }
def Cp:Prop :=
  ∀ (x:List Int),(x.length * 8<=aF/\∀ (x_1:Int),x_1∈x->am .i64 x_1)->True->((1:Int)<=1/\1<=(x.length:Int)+1/\aK (List.drop ((1:Int) - 1).toNat x)=aK x)/\∀ (x_1:Int),1<=x_1/\x_1<=(x.length:Int)+1/\aK (List.drop (x_1 - 1).toNat x)=aK x->(decide (x_1<(x.length:Int))=true->am .i64 (x_1 - 1)/\0<=x_1 - 1/\x_1 - 1<(x.length:Int)/\0<=x_1/\x_1<(x.length:Int)/\(decide (x.getD x_1.toNat 0<=x.getD (x_1 - 1).toNat 0)=true->false=aK x/\True)/\(decide (x.getD x_1.toNat 0<=x.getD (x_1 - 1).toNat 0)=false->am .i64 (x_1+1)/\(1<=x_1+1/\x_1+1<=(x.length:Int)+1/\aK (List.drop (x_1+1 - 1).toNat x)=aK x)/\((x.length:Int) - (x_1+1)).toNat<((x.length:Int) - x_1).toNat))/\(decide (x_1<(x.length:Int))=false->true=aK x/\True)
theorem HH:Cp:=by
 unfold Cp;intro l ⟨hb,_⟩ _;unfold aF at hb;refine ⟨⟨by omega,by omega,rfl⟩,fun i ⟨h0,h1,h2⟩=>⟨fun hlt=>?_,fun hge=>?_⟩⟩
 ·have hlt:i<(l.length:Int):=Pt hlt;have e1:=bg (0:Int) (xs:=l) (i:=i - 1) (by omega) (by omega);have e2:=bg (0:Int) (xs:=l) (i:=i) (by omega) hlt;rw [show i - 1+1=i by omega] at e1;simp only [am] at h2 |-;rw [e1,e2] at h2;simp only [aK] at h2;rw [<- e2] at h2;refine ⟨by omega,by omega,by omega,by omega,hlt,fun hc=>?_,fun hc=>⟨by omega,⟨by omega,by omega,?_⟩,by omega⟩⟩
  ·have hc:=Pt hc;rw [<- h2,QI (by omega)];exact ⟨rfl,trivial⟩
  ·have hc:=Pu hc;rw [QA (by omega),QL] at h2;rw [show i+1 - 1=i by omega];exact h2
 ·have hge:¬ i<(l.length:Int):=Pu hge;rw [o7 (by rw [PW]; omega)] at h2;exact ⟨h2,trivial⟩
theorem K0:Kq.ok Tryz.prog 288:=aA (ann:=DO) ap Tryz.func288 (by kernel_rfl) HH
end
section
def cM (at_:Int):List ax->ew×Bool
 | []=>(bL,false)
 | s::l=>if s.1=at_/\s.2.2.2.2=false then (s.2,true) else cM at_ l
theorem iB (at_:Int):∀ (l:List ax),cM at_ l=(bL,false)\/∃ s∈l,s.1=at_/\s.2.2.2.2=false/\cM at_ l=(s.2,true)
 | []=>.inl rfl
 | s::l=>by
  simp only [cM];split
  ·rename_i h;exact .inr ⟨s,by simp,h.1,h.2,rfl⟩
  ·rcases iB at_ l with h | ⟨t,h1,h2⟩
   ·exact .inl h
   ·exact .inr ⟨t,by simp [h1],h2⟩
def nameOf (v:Int):Int:=(if 256<v then 9999 else v) - 1
def aB:List ax->List Int
 | []=>[]
 | s::l=>if s.2.2.2.2=true then aB l else s.1::aB l
end
section
theorem dM:∀ l:List ax,(aB l).length<=l.length
 | []=>by simp [aB]
 | s::l=>by
  have:=dM l;simp only [aB];split <;> simp <;> omega
theorem eY (a:List Int):∀ s∈(aa a).1,a.length<=256/\dm a s/\af s.2=0:=by
 intro s hs
 have hz:(aa a).2=0:=by
  unfold aa at hs |-;split at hs
  ·simp at hs
  ·rename_i cl;rw [if_neg cl];cases h:spotsS 0 a with
   | none=>rw [h] at hs; simp at hs
   | some l=>rfl
 have h:=ng hz;exact ⟨h.1,(h.2 s hs).1,(h.2 s hs).2⟩
end
section
theorem we (at_:Int) (l:List Int) (r:List ax) (h:spotsS at_ l=some r):r.Pairwise (fun s t=>s.1<t.1):=by
 induction at_,l using spotsS.induct generalizing r with
 | case1 at_ =>
  simp only [spotsS,Ps] at h;subst h;exact List.Pairwise.nil
 | case2 at_ v l hv ih =>
  rw [d6 hv.1 hv.2] at h;obtain ⟨r',hr,rfl⟩:=Py.1 h;have hl:=fH hv.1;refine Qe.2 ⟨fun t ht=>?_,ih r' hr⟩;have:=(xa _ _ _ hr t ht).1;simp only;omega
 | case3 at_ v l hv =>
  rw [gM hv] at h;cases h
theorem bz (a:List Int):(aa a).1.Pairwise (fun s t=>s.1<t.1):=by
 unfold aa;split
 ·exact List.Pairwise.nil
 ·cases h:spotsS 0 a with
  | none=>exact List.Pairwise.nil
  | some l=>exact we 0 a l h
theorem eL {α:Type} (k k':Int) (x:α):∀ (m:List (Int×α)),aC (cR m k x) k'=if k'=k then some x else aC m k'
 | []=>by
  simp only [cR,aC];by_cases h:k=k'
  ·simp [h]
  ·simp [h,Ne.symm h]
 | y::m=>by
  have ih:=eL k k' x m;simp only [cR];by_cases hy:y.1=k
  ·rw [if_pos hy];simp only [aC];by_cases h:k=k'
   ·simp [h]
   ·simp [h,Ne.symm h,hy]
  ·rw [if_neg hy];simp only [aC,ih];by_cases h:y.1=k'
   ·have:k'≠k:=fun e=>hy (h.trans e)
    simp [h,this]
   ·simp [h]
def nr (v:Int):Int->List ax->Option Int
 | _,[]=>none
 | i,s::l=>if s.2.2.2.2=false/\s.1+1=v then some i else nr v (i+1) l
theorem xR {v:Int}:∀ (l:List ax) (i:Int),(∀ s∈l,s.1+1≠v)->nr v i l=none
 | [],_,_=>rfl
 | s::l,i,h=>by
  simp only [nr];rw [if_neg (fun e=>h s (by simp) e.2)];exact xR l (i+1) (fun t ht=>h t (by simp [ht]))
theorem jO (v:Int):∀ (l:List ax) (m:List (Int×Int)) (i:Int),l.Pairwise (fun s t=>s.1<t.1)->aC (et m i l) v=(nr v i l).or (aC m v)
 | [],m,i,_=>rfl
 | s::l,m,i,h=>by
  obtain ⟨h1,h2⟩:=Qe.1 h;simp only [et,nr];rw [jO v l _ (i+1) h2];cases hf:s.2.2.2.2
  ·simp only [PG,P5,Ro];rw [eL];by_cases hv:s.1+1=v
   ·rw [xR l (i+1) (fun t ht e=>by have:=h1 t ht; omega),if_pos hv,if_pos hv.symm];rfl
   ·rw [if_neg hv,if_neg (fun e=>hv e.symm)]
  ·simp
theorem li (v:Int):∀ (l:List ax) (i:Int),(nr v i l).isSome=cu (aB l) (v - 1)
 | [],_=>rfl
 | s::l,i=>by
  have ih:=li v l (i+1);simp only [nr,aB];cases hf:s.2.2.2.2
  ·simp only [Ro,PG,P5,cu,Q4];by_cases hv:s.1+1=v
   ·rw [if_pos hv];simp;left; omega
   ·rw [if_neg hv,ih];have:¬ s.1=v - 1:=by omega
    simp [this,cu]
  ·simp [ih]
theorem go (n:Int):∀ (l:List ax),(∀ s∈l,0<=s.1/\s.1<=255)->(n<0\/255<n)->cu (aB l) n=false
 | [],_,_=>rfl
 | s::l,h,hn=>by
  have ih:=go n l (fun t ht=>h t (by simp [ht])) hn;have hs:=h s (by simp);simp only [aB];split
  ·exact ih
  ·simp only [cu,Q4] at ih |-;rw [ih];simp;omega
theorem xQ {l:List ax} (hs:l.Pairwise (fun s t=>s.1<t.1)) (hr:∀ s∈l,0<=s.1/\s.1<=255) {v:Int} (hv:0<=v) :
  (decide (nameOf v=-1)||cu (aB l) (nameOf v))=(aC (cH l) v).isSome:=by
 unfold cH;rw [jO v l _ 0 hs];by_cases h0:v=0
 ·subst h0;cases h:nr 0 0 l <;> simp [nameOf,aC]
 ·have e1:aC [((0:Int),(-1:Int))] v=none:=by simp [aC,Ne.symm h0]
  rw [e1,Option.or_none,li];by_cases hb:256<v
  ·have:nameOf v=9998:=by simp [nameOf,hb]
   rw [this,go 9998 l hr (by omega),go (v - 1) l hr (by omega)];rfl
  ·have:nameOf v=v - 1:=by simp [nameOf,hb]
   rw [this];have:¬ v - 1=-1:=by omega
   simp [this]
theorem ov:∀ {l:List ax} {s:ax},l.Pairwise (fun s t=>s.1<t.1)->s∈l->s.2.2.2.2=false->cM s.1 l=(s.2,true)
 | t::l,s,hs,hm,hf=>by
  obtain ⟨h1,h2⟩:=Qe.1 hs;simp only [cM];rcases PD.1 hm with rfl | hm
  ·rw [if_pos ⟨rfl,hf⟩]
  ·rw [if_neg (fun e=>by have:=h1 s hm; omega)];exact ov h2 hm hf
theorem sE {a:List Int} {s:ax} (hw:∀ x∈a,am .u64 x):∀ v∈bc a s,0<=v:=by
 intro v hv;exact (hw v (QF (QB hv))).1
theorem gL {a:List Int}:∀ s∈(aa a).1,0<=s.1/\s.1<=255:=by
 intro s hs;obtain ⟨h1,h2,h3⟩:=eY a s hs;unfold dm at h2;omega
def isB (l:List ax) (at_:Int):Bool:=(cM at_ l).2
theorem cX (n:Int):∀ l:List ax,cu (aB l) n=isB l n
 | []=>rfl
 | s::l=>by
  have ih:=cX n l;unfold isB at ih |-;simp only [aB,cM];cases hf:s.2.2.2.2
  ·simp only [PG,P5,RB,cu,Q4];by_cases hv:s.1=n
   ·rw [if_pos hv];simp [hv]
   ·rw [if_neg hv];simp only [cu] at ih;rw [<- ih];simp [hv]
  ·simp only [if_true,and_false,P5,Bool.true_eq_false];exact ih
theorem jM {a:List Int} (hw:∀ x∈a,am .u64 x) (hc:(ai a).2.2=0):∀ s∈(aa a).1,∀ v∈bc a s,v=0\/1<=v/\v<=256/\isB (aa a).1 (v - 1)=true:=by
 intro s hs v hv;obtain ⟨_,_,_,_,_,hok,_⟩:=bJ hc;have h1:=PA.1 (PA.1 hok s hs) v hv;have h0:=sE hw v hv;rw [<- xQ (bz a) gL h0] at h1;by_cases hz:v=0
 ·exact .inl hz
 refine .inr ?_
 have hr:∀ n,cu (aB (aa a).1) n=true->0<=n/\n<=255:=fun n hn=>by
  refine ⟨Int.not_lt.1 fun h=>?_,Int.not_lt.1 fun h=>?_⟩
  ·rw [go n _ gL (.inl h)] at hn; cases hn
  ·rw [go n _ gL (.inr h)] at hn; cases hn
 unfold nameOf at h1;split at h1
 ·have h2:cu (aB (aa a).1) (9999 - 1)=true:=by simpa using h1
  have:=hr _ h2;omega
 ·have h2:cu (aB (aa a).1) (v - 1)=true:=by
   rcases Qq _ _ ▸ h1 with h | h
   ·have:=Pt h; omega
   ·exact h
  have:=hr _ h2;refine ⟨by omega,by omega,?_⟩;rw [<- cX];exact h2
theorem pP {a:List Int} {at_:Int} (h:isB (aa a).1 at_=true):(at_,(cM at_ (aa a).1).1)∈(aa a).1/\dm a (at_,(cM at_ (aa a).1).1)/\af (cM at_ (aa a).1).1=0/\(cM at_ (aa a).1).1.2.2.2=false/\a.length<=256:=by
 rcases iB at_ (aa a).1 with e | ⟨s,h1,h2,h3,e⟩
 ·unfold isB at h;rw [e] at h;cases h
 ·obtain ⟨k1,k2,k3⟩:=eY a s h1;rw [e];simp only;subst h2;exact ⟨h1,k2,k3,h3,k1⟩
end
section
end
section
abbrev jH:Ty:=.pair ty_I ty_I
abbrev dp:=Int×Int
def E0:Spec:={ Ts:=[eX],Rs:=[.dat ty_I],pre:=fun _=>True,F:=fun (h:ew)=>(if af h=0 then ae h else 0:Int) }
def uj:Prop :=
  ∀ (x:Int×Int×Int×Bool),am .i64 x.1/\am .i64 x.2.1/\am .i64 x.2.2.1/\True->True->True/\((if af x=0 then ae x else (0:Int))=if af x=0 then ae x else (0:Int))/\True
theorem Bh:uj:=by
 unfold uj;intro h _ _;simp
theorem uv:E0.ok Tryz.prog 217:=aA (ann:=cn) (ac jr ap) Tryz.func217 (by kernel_rfl) Bh
def aW (a:List Int):List ax×Int:=if (ai a).2.2≠0 then ([],(ai a).2.2) else ((aa a).1,0)
def BV:Spec:={ Ts:=[.arr bo],Rs:=[.own 202 cE,.dat ty_I],pre:=fun _=>True,F:=aW }
def rW:Prop :=
  ∀ (x:List Int),(x.length * 8<=aF/\∀ (x_1:Int),x_1∈x->am .u64 x_1)->True->True/\(decide ((ai x).2.2≠0)=true->([]:List (Int×Int×Int×Int×Bool))=(aW x).1/\(ai x).2.2=(aW x).2/\True)/\(decide ((ai x).2.2≠0)=false->True/\(aa x).1=(aW x).1/\(aa x).2=(aW x).2/\True)
theorem yZ:rW:=by
 unfold rW;intro a _ _;have h:=bJ (a:=a);unfold aW;refine ⟨trivial,fun hc=>?_,fun hc=>?_⟩
 ·have hc:(ai a).2.2≠0:=by simpa using hc
  rw [if_pos hc];exact ⟨rfl,rfl,trivial⟩
 ·have hc:(ai a).2.2=0:=by simpa using hc
  obtain ⟨_,_,_,h4,_⟩:=h hc;rw [if_neg (by omega),h4];exact ⟨trivial,rfl,rfl,trivial⟩
theorem mJ:BV.ok Tryz.prog 212:=aA (ann:=cn) (ac fT (ac fS ap)) Tryz.func212 (by kernel_rfl) yZ
def ma (out:List dp) (n:Int):List dp:=out.set (out.length - 1) ((out.getD (out.length - 1) (0,0)).1,(out.getD (out.length - 1) (0,0)).2+n)
def aV:Bool->List dp->List ax->List dp
 | _,out,[]=>out
 | p,out,s::l=>aV s.2.2.2.2 (if s.2.2.2.2=true then (if p=true then ma out (ae s.2) else out++[(s.1,ae s.2)]) else out) l
theorem ip (out:List dp) (n:Int):(ma out n).length=out.length:=by simp [ma]
def c7 (l:List ax) (i:Int):Bool:=decide (0<i)&&(l.getD (i - 1).toNat (0,0,0,0,false)).2.2.2.2
def Gj:Nat->Option LoopGen
 | 3=>some { rd:=[.dat 6 (.arr cE)],A:=fun (l:List ax)=>{ cs:=[.own 3 105 jH,.dat 8 ty_I],inv:=fun ((out,i):List dp×Int)=>0<=i/\i<=l.length/\l.length<=256/\(∀ s∈l,af s.2=0)/\out.length<=i/\(c7 l i=true->0<out.length)/\(∀ r∈out,0<=r.2/\r.2<=256 * i)/\aV (c7 l i) out (l.drop i.toNat)=aV false [] l,mu:=fun ((_,i):List dp×Int)=>(l.length - i).toNat } }
 | _=>none
def E2:Spec:={ Ts:=[.arr cE],Rs:=[.own 105 jH],pre:=fun (l:List ax)=>l.length<=256/\∀ s∈l,af s.2=0,F:=fun (l:List ax)=>aV false [] l }
def ul:Prop :=
  ∀ (x:List (Int×Int×Int×Int×Bool)),(x.length * (8+(8+(8+(8+8))))<=aF/\∀ (x_1:Int×Int×Int×Int×Bool),x_1∈x->am .i64 x_1.1/\am .i64 x_1.2.1/\am .i64 x_1.2.2.1/\am .i64 x_1.2.2.2.1/\True)->(x.length<=256/\∀ (s:ax),s∈x->af s.2=0)->((0:Int)<=0/\0<=(x.length:Int)/\x.length<=256/\(∀ (s:ax),s∈x->af s.2=0)/\(↑(0:Nat):Int)<=0/\(c7 x 0=true->(0:Nat)<0)/\(∀ (r:dp),r∈([]:List (Int×Int))->0<=r.2/\r.2<=256 * 0)/\aV (c7 x 0) ([]:List (Int×Int)) (List.drop (Int.toNat 0) x)=aV false ([]:List dp) x)/\∀ (x_1:List (Int×Int)×Int),(fun (v0:type_of% (x.getD x_1.2.toNat (0,0,0,0,false)))=>0<=x_1.2/\x_1.2<=(x.length:Int)/\x.length<=256/\(∀ (s:ax),s∈x->af s.2=0)/\(x_1.1.length:Int)<=x_1.2/\(c7 x x_1.2=true->0<x_1.1.length)/\(∀ (r:dp),r∈x_1.1->0<=r.2/\r.2<=256 * x_1.2)/\aV (c7 x x_1.2) x_1.1 (List.drop x_1.2.toNat x)=aV false ([]:List dp) x->(decide (x_1.2<(x.length:Int))=true->0<=x_1.2/\x_1.2<(x.length:Int)/\((!v0.2.2.2.2)=true->am .i64 (x_1.2+1)/\(0<=x_1.2+1/\x_1.2+1<=(x.length:Int)/\x.length<=256/\(∀ (s:ax),s∈x->af s.2=0)/\(x_1.1.length:Int)<=x_1.2+1/\(c7 x (x_1.2+1)=true->0<x_1.1.length)/\(∀ (r:dp),r∈x_1.1->0<=r.2/\r.2<=256 * (x_1.2+1))/\aV (c7 x (x_1.2+1)) x_1.1 (List.drop (x_1.2+1).toNat x)=aV false ([]:List dp) x)/\((x.length:Int) - (x_1.2+1)).toNat<((x.length:Int) - x_1.2).toNat)/\((!v0.2.2.2.2)=false->(decide (0<x_1.2)=true->am .i64 (x_1.2 - 1))/\(decide (0<x_1.2)=true->0<=x_1.2 - 1)/\(decide (0<x_1.2)=true->x_1.2 - 1<(x.length:Int))/\((decide (0<x_1.2)&&(x.getD (x_1.2 - 1).toNat (0,0,0,0,false)).2.2.2.2)=true->am .i64 ((x_1.1.length:Int) - 1)/\0<=(x_1.1.length:Int) - 1/\(x_1.1.length:Int) - 1<(x_1.1.length:Int)/\((x_1.1.length:Int) - 1).toNat<x_1.1.length/\True/\am .i64 ((x_1.1.getD ((x_1.1.length:Int) - 1).toNat (0,0)).2+if af v0.2=0 then ae v0.2 else (0:Int))/\0<=(x_1.1.length:Int) - 1/\(x_1.1.length:Int) - 1<(x_1.1.length:Int)/\((x_1.1.length:Int) - 1).toNat<x_1.1.length/\am .i64 (x_1.2+1)/\(0<=x_1.2+1/\x_1.2+1<=(x.length:Int)/\x.length<=256/\(∀ (s:ax),s∈x->af s.2=0)/\(↑(x_1.1.set ((x_1.1.length:Int) - 1).toNat ((x_1.1.getD ((x_1.1.length:Int) - 1).toNat (0,0)).1,(x_1.1.getD ((x_1.1.length:Int) - 1).toNat (0,0)).2+if af v0.2=0 then ae v0.2 else (0:Int))).length:Int)<=x_1.2+1/\(c7 x (x_1.2+1)=true->0<(x_1.1.set ((x_1.1.length:Int) - 1).toNat ((x_1.1.getD ((x_1.1.length:Int) - 1).toNat (0,0)).1,(x_1.1.getD ((x_1.1.length:Int) - 1).toNat (0,0)).2+if af v0.2=0 then ae v0.2 else (0:Int))).length)/\(∀ (r:dp),r∈x_1.1.set ((x_1.1.length:Int) - 1).toNat ((x_1.1.getD ((x_1.1.length:Int) - 1).toNat (0,0)).1,(x_1.1.getD ((x_1.1.length:Int) - 1).toNat (0,0)).2+if af v0.2=0 then ae v0.2 else (0:Int))->0<=r.2/\r.2<=256 * (x_1.2+1))/\aV (c7 x (x_1.2+1)) (x_1.1.set ((x_1.1.length:Int) - 1).toNat ((x_1.1.getD ((x_1.1.length:Int) - 1).toNat (0,0)).1,(x_1.1.getD ((x_1.1.length:Int) - 1).toNat (0,0)).2+if af v0.2=0 then ae v0.2 else (0:Int))) (List.drop (x_1.2+1).toNat x)=aV false ([]:List dp) x)/\((x.length:Int) - (x_1.2+1)).toNat<((x.length:Int) - x_1.2).toNat)/\((decide (0<x_1.2)&&(x.getD (x_1.2 - 1).toNat (0,0,0,0,false)).2.2.2.2)=false->True/\(x_1.1.length+[(v0.1,if af v0.2=0 then ae v0.2 else (0:Int))].length) * (8+8)<=aF/\am .i64 (x_1.2+1)/\(0<=x_1.2+1/\x_1.2+1<=(x.length:Int)/\x.length<=256/\(∀ (s:ax),s∈x->af s.2=0)/\(↑(x_1.1++[(v0.1,if af v0.2=0 then ae v0.2 else (0:Int))]).length:Int)<=x_1.2+1/\(c7 x (x_1.2+1)=true->0<(x_1.1++[(v0.1,if af v0.2=0 then ae v0.2 else (0:Int))]).length)/\(∀ (r:dp),r∈x_1.1++[(v0.1,if af v0.2=0 then ae v0.2 else (0:Int))]->0<=r.2/\r.2<=256 * (x_1.2+1))/\aV (c7 x (x_1.2+1)) (x_1.1++[(v0.1,if af v0.2=0 then ae v0.2 else (0:Int))]) (List.drop (x_1.2+1).toNat x)=aV false ([]:List dp) x)/\((x.length:Int) - (x_1.2+1)).toNat<((x.length:Int) - x_1.2).toNat)))/\(decide (x_1.2<(x.length:Int))=false->x_1.1=aV false ([]:List dp) x/\True)) (x.getD x_1.2.toNat (0,0,0,0,false))
theorem Bj:ul:=by
 unfold ul;intro l ⟨hb,_⟩ ⟨hl,hf⟩;refine ⟨⟨by omega,by omega,hl,hf,by simp,by simp [c7],by simp,by simp [c7]⟩,fun ⟨out,i⟩ ⟨h0,h1,_,_,h2,h3,h4,h5⟩=>⟨fun hlt=>?_,fun hge=>?_⟩⟩
 ·have hlt:i<(l.length:Int):=Pt hlt;simp only at h0 h1 h2 h3 h4 h5 |-;rw [bg ((0,0,0,0,false):ax) h0 hlt] at h5;simp only [aV] at h5;have hs:=hf _ (aH ((0,0,0,0,false):ax) h0 hlt)
  have hlf:c7 l (i+1)=(l.getD i.toNat (0,0,0,0,false)).2.2.2.2:=by
   unfold c7;rw [show i+1 - 1=i by omega];simp;omega
  rw [hlf,if_pos hs];have hz:=bG hs;have hL:ae (l.getD i.toNat (0,0,0,0,false)).2=1+(l.getD i.toNat (0,0,0,0,false)).2.1+(l.getD i.toNat (0,0,0,0,false)).2.2.1:=rfl;have hlfi:c7 l i=(decide (0<i)&&(l.getD (i - 1).toNat (0,0,0,0,false)).2.2.2.2):=rfl;rw [<- hlfi];generalize l.getD i.toNat (0,0,0,0,false)=s at *;generalize ae s.2=L at *;simp only [am];refine ⟨h0,hlt,fun hc=>?_,fun hc=>⟨fun hp=>by have:=Pt hp; omega,fun hp=>by have:=Pt hp; omega,fun _=>by omega,fun hp=>?_,fun hp=>?_⟩⟩
  ·have hc:s.2.2.2.2=false:=by simpa using hc
   rw [hc] at h5 |-;simp only [PG,P5] at h5;exact ⟨by omega,⟨by omega,by omega,hl,hf,by omega,fun h=>by simp at h,fun r hr=>by have:=h4 r hr; omega,h5⟩,by omega⟩
  ·have hc:s.2.2.2.2=true:=by simpa using hc
   rw [hc,hp] at h5;simp only [if_true] at h5;rw [hc];have hlen:=h3 hp;have hlast:=h4 _ (aH ((0,0):dp) (xs:=out) (i:=(out.length:Int) - 1) (by omega) (by omega));have e:((out.length:Int) - 1).toNat=out.length - 1:=by omega
   rw [e] at hlast |-;have hbump:out.set (out.length - 1) ((out.getD (out.length - 1) (0,0)).1,(out.getD (out.length - 1) (0,0)).2+L)=ma out L:=rfl;rw [hbump];rw [ip];refine ⟨by omega,by omega,by omega,by omega,trivial,by omega,by omega,by omega,by omega,by omega,⟨by omega,by omega,hl,hf,by omega,fun _=>hlen,fun r hr=>?_,h5⟩,by omega⟩;rcases Sl hr with hr | rfl
   ·have:=h4 r hr; omega
   ·simp only; omega
  ·have hc:s.2.2.2.2=true:=by simpa using hc
   rw [hc,hp] at h5;simp only [if_true,PG,P5] at h5;rw [hc];unfold aF;simp only [PC,Pz,P4];refine ⟨trivial,by omega,by omega,⟨by omega,by omega,hl,hf,by omega,fun _=>by omega,fun r hr=>?_,h5⟩,by omega⟩;rcases PI.1 hr with hr | hr
   ·have:=h4 r hr; omega
   ·simp only [PB] at hr;subst hr;simp only;omega
 ·have hge:¬ i<(l.length:Int):=Pu hge;simp only at h5;rw [b6 hge] at h5;exact ⟨h5,trivial⟩
theorem uw:E2.ok Tryz.prog 213:=aA (ann:=Gj) (ac uv ap) Tryz.func213 (by kernel_rfl) Bj
def aq (a:List Int):List dp×Int:=if (ai a).2.2≠0 then ([],(ai a).2.2) else (aV false [] (aa a).1,0)
def BU:Spec:={ Ts:=[.arr bo],Rs:=[.own 105 jH,.dat ty_I],pre:=fun _=>True,F:=aq }
def rV:Prop :=
  ∀ (x:List Int),(x.length * 8<=aF/\∀ (x_1:Int),x_1∈x->am .u64 x_1)->True->True/\(decide ((aW x).2≠0)=true->([]:List (Int×Int))=(aq x).1/\(aW x).2=(aq x).2/\True)/\(decide ((aW x).2≠0)=false->((aW x).1.length<=256/\∀ (s:ax),s∈(aW x).1->af s.2=0)/\aV false ([]:List dp) (aW x).1=(aq x).1/\0=(aq x).2/\True)
theorem yY:rV:=by
 unfold rV;intro a _ _;have h:=bJ (a:=a);have hlen:=cI a;unfold aW aq;refine ⟨trivial,fun hc=>?_,fun hc=>?_⟩
 ·have hc:(ai a).2.2≠0:=by
   intro e;rw [if_neg (by omega)] at hc;simp at hc
  rw [if_pos hc,if_pos hc];exact ⟨rfl,rfl,trivial⟩
 ·have hc:(ai a).2.2=0:=by
   apply Qm;intro e;rw [if_pos e] at hc;simp [e] at hc
  obtain ⟨_,_,h3,h4,_,_,h5⟩:=h hc;rw [if_neg (by omega),if_neg (by omega)];rw [h3] at h5;exact ⟨⟨hlen,fun s hs=>(h5 s hs).2⟩,rfl,rfl,trivial⟩
theorem kv:BU.ok Tryz.prog 154:=aA (ann:=cn) (ac mJ (ac uw ap)) Tryz.func154 (by kernel_rfl) yY
def a6 (a:List Int) (at_ n:Int):List Int:=if 0<n then (eP a at_ n 0 n).set at_.toNat (aR (0,n - 1,0,true)) else a
def iA (a:List Int) (at_ n:Int):Prop:=0<=at_/\0<=n/\at_+n<=a.length/\a.length<=256
theorem u5 {a:List Int} {at_ n v:Int} (h:iA a at_ n):iv a at_ n v=(eP a at_ n v n,0):=by
 obtain ⟨h1,h2,h3,h4⟩:=h
 have:eH a.length n [at_]=0:=by
  rw [Bp,if_neg (by omega),if_pos];rw [nv];omega
 unfold iv;rw [if_pos this]
def MK:Spec:={ Ts:=[.arr bo,ty_I,ty_I],Rs:=[.own 45 bo],pre:=fun ((a,at_,n):List Int×Int×Int)=>iA a at_ n/\1<=n,F:=fun ((a,at_,n):List Int×Int×Int)=>a6 a at_ n }
def GF:Prop :=
  ∀ (x:List Int×Int×Int),(x.1.length * 8<=aF/\∀ (x_1:Int),x_1∈x.1->am .u64 x_1)/\am .i64 x.2.1/\am .i64 x.2.2->iA x.1 x.2.1 x.2.2/\1<=x.2.2->(decide (x.2.2=0)=true->False)/\(decide (x.2.2=0)=false->am .i64 (x.2.2 - 1)/\True/\True/\0<=x.2.1/\x.2.1<(↑(iv x.1 x.2.1 x.2.2 0).1.length:Int)/\x.2.1.toNat<(iv x.1 x.2.1 x.2.2 0).1.length/\(iv x.1 x.2.1 x.2.2 0).1.set x.2.1.toNat (if af (0,x.2.2 - 1,0,true)=0 then aR (0,x.2.2 - 1,0,true) else (0:Int))=a6 x.1 x.2.1 x.2.2/\True)
theorem JW:GF:=by
 unfold GF;intro ⟨a,at_,n⟩ _ ⟨hp,h1⟩;simp only at hp h1 |-;rw [u5 hp];obtain ⟨p1,p2,p3,p4⟩:=hp;have hf:af (0,n - 1,0,true)=0:=by simp [af,ae]; omega
 have hl:=fY a at_ n 0 n p1 p3 p2 (by omega);rw [if_pos hf];have hE:a6 a at_ n=(eP a at_ n 0 n).set at_.toNat (aR (0,n - 1,0,true)):=by unfold a6; rw [if_pos (by omega)]
 rw [hE];simp only [am];exact ⟨fun h=>by have:=Pt h; omega,fun _=>⟨by omega,trivial,trivial,by omega,by omega,by omega,trivial,trivial⟩⟩
theorem M3:MK.ok Tryz.prog 215:=aA (ann:=cn) (ac iV (ac mH ap)) Tryz.func215 (by kernel_rfl) JW
def MJ:Spec:={ Ts:=[.arr bo,ty_I,ty_I],Rs:=[.dat (.arr bo)],al:=true,pre:=fun ((a,at_,n):List Int×Int×Int)=>iA a at_ n,F:=fun ((a,at_,n):List Int×Int×Int)=>a6 a at_ n }
def GE:Prop :=
  ∀ (x:List Int×Int×Int),(x.1.length * 8<=aF/\∀ (x_1:Int),x_1∈x.1->am .u64 x_1)/\am .i64 x.2.1/\am .i64 x.2.2->iA x.1 x.2.1 x.2.2->(decide (x.2.2=0)=true->x.1=a6 x.1 x.2.1 x.2.2/\True)/\(decide (x.2.2=0)=false->am .i64 (x.2.2 - 1)/\True/\True/\0<=x.2.1/\x.2.1<(↑(iv x.1 x.2.1 x.2.2 0).1.length:Int)/\x.2.1.toNat<(iv x.1 x.2.1 x.2.2 0).1.length/\(iv x.1 x.2.1 x.2.2 0).1.set x.2.1.toNat (if af (0,x.2.2 - 1,0,true)=0 then aR (0,x.2.2 - 1,0,true) else (0:Int))=a6 x.1 x.2.1 x.2.2/\True)
theorem JV:GE:=by
 unfold GE;intro ⟨a,at_,n⟩ _ hp;simp only at hp |-;rw [u5 hp];obtain ⟨p1,p2,p3,p4⟩:=hp;refine ⟨fun h=>?_,fun h=>?_⟩
 ·have h:=Pt h;unfold a6;rw [if_neg (by omega)];exact ⟨rfl,trivial⟩
 ·have h:=Pu h;have hf:af (0,n - 1,0,true)=0:=by simp [af,ae]; omega
  have hl:=fY a at_ n 0 n p1 p3 p2 (by omega);rw [if_pos hf];have hE:a6 a at_ n=(eP a at_ n 0 n).set at_.toNat (aR (0,n - 1,0,true)):=by unfold a6; rw [if_pos (by omega)]
  rw [hE];simp only [am];exact ⟨by omega,trivial,trivial,by omega,by omega,by omega,trivial,trivial⟩
theorem M2:MJ.ok Tryz.prog 215:=aA (ann:=cn) (ac iV (ac mH ap)) Tryz.func215 (by kernel_rfl) JV
def dS (a:List Int):List Int×Int:=if (ai a).2.2≠0 then ([],(ai a).2.2) else ((aV false [] (aa a).1).foldl (fun a r=>a6 a r.1 r.2) a,0)
theorem sV {a:List Int} {at_ n:Int} (h:iA a at_ n):(a6 a at_ n).length=a.length:=by
 obtain ⟨p1,p2,p3,p4⟩:=h;unfold a6;split
 ·rw [Ra];exact fY a at_ n 0 n p1 p3 p2 (by omega)
 ·rfl
def gv:Int->Int->List ax->Prop
 | s,e,[]=>s=e
 | s,e,x::r=>x.1=s/\1<=ae x.2/\gv (s+ae x.2) e r
theorem oT (at_:Int) (l:List Int) (r:List ax) (h:spotsS at_ l=some r):gv at_ (at_+l.length) r:=by
 induction at_,l using spotsS.induct generalizing r with
 | case1 at_ =>
  simp only [spotsS,Ps] at h;subst h;simp [gv]
 | case2 at_ v l hv ih =>
  rw [d6 hv.1 hv.2] at h;obtain ⟨r',hr,rfl⟩:=Py.1 h;have hl:=fH hv.1;have h2:=ih r' hr;refine ⟨rfl,hl.1,?_⟩
  have e:at_+ae (ba v)+(((v::l).drop (ae (ba v)).toNat).length:Nat)=at_+((v::l).length:Nat):=by
   rw [PW];have:=hv.2;omega
  rw [e] at h2;exact h2
 | case3 at_ v l hv =>
  rw [gM hv] at h;cases h
theorem jl {a:List Int} (h:(aa a).2=0):gv 0 a.length (aa a).1:=by
 unfold aa at h |-;split at h
 ·simp at h
 rename_i cl;rw [if_neg cl];cases e:spotsS 0 a with
 | none=>rw [e] at h; simp at h
 | some l =>
  have:=oT 0 a l e;rw [Int.zero_add] at this;exact this
def mS (n:Int) (l:List dp):Prop:=∀ r∈l,0<=r.1/\1<=r.2/\r.1+r.2<=n
theorem pV:∀ (l:List ax) (s e:Int) (p:Bool) (out:List dp),gv s e l->0<=s->mS s out->(p=true->0<out.length/\(out.getD (out.length - 1) (0,0)).1+(out.getD (out.length - 1) (0,0)).2=s)->mS e (aV p out l)/\s<=e
 | [],s,e,p,out,ht,h0,ho,_=>by
  have:s=e:=ht;subst this;exact ⟨ho,RQ _⟩
 | x::l,s,e,p,out,⟨h1,h2,h3⟩,h0,ho,hp=>by
  simp only [aV];have up:mS (s+ae x.2) out:=fun r hr=>by have:=ho r hr; omega
  cases hf:x.2.2.2.2
  ·have ih:=pV l _ e false out h3 (by omega) up (fun h=>by cases h);simp only [PG,P5];exact ⟨ih.1,by omega⟩
  ·simp only [if_true];cases p
   ·have ih:=pV l _ e true (out++[(x.1,ae x.2)]) h3 (by omega) (fun r hr=>by
     rcases PI.1 hr with hr | hr
     ·exact up r hr
     ·simp only [PB] at hr;subst hr;simp only;omega) (fun _=>⟨by simp,by simp; omega⟩)
    simp only [PG,P5];exact ⟨ih.1,by omega⟩
   ·obtain ⟨q1,q2⟩:=hp rfl;have hlast:=ho _ (aH ((0,0):dp) (xs:=out) (i:=(out.length:Int) - 1) (by omega) (by omega));rw [show ((out.length:Int) - 1).toNat=out.length - 1 by omega] at hlast
    have ih:=pV l _ e true (ma out (ae x.2)) h3 (by omega) (fun r hr=>by
     rcases Sl hr with hr | rfl
     ·exact up r hr
     ·simp only
      omega) (fun _=>⟨by rw [ip]; exact q1,by
       rw [ip];unfold ma;simp [show out.length - 1<out.length by omega];simp [show out.length - 1<out.length by omega] at q2;omega⟩)
    simp only [if_true];exact ⟨ih.1,by omega⟩
theorem pU:∀ (l:List ax) (p:Bool) (out:List dp),(aV p out l).length<=out.length+l.length
 | [],_,_=>by simp [aV]
 | x::l,p,out=>by
  have h1:=pU l x.2.2.2.2 (if x.2.2.2.2=true then (if p=true then ma out (ae x.2) else out++[(x.1,ae x.2)]) else out);simp only [aV,Pz]
  have:(if x.2.2.2.2=true then (if p=true then ma out (ae x.2) else out++[(x.1,ae x.2)]) else out).length<=out.length+1:=by
   split
   ·split
    ·rw [ip]; omega
    ·simp
   ·omega
  omega
theorem pT {a:List Int} (h:(aa a).2=0):mS a.length (aV false [] (aa a).1)/\(aV false [] (aa a).1).length<=256:=by
 have h1:=pV _ 0 a.length false [] (jl h) (RQ _) (fun r hr=>by cases hr) (fun h=>by cases h);have h2:=pU (aa a).1 false [];have h3:=cI a;exact ⟨h1.1,by simp at h2; omega⟩
def Gi:Nat->Option LoopGen
 | 6=>some { rd:=[.own 19 105 jH,.own 0 45 bo],A:=fun ((g,b):List dp×List Int)=>{ cs:=[.own 0 45 bo,.dat 21 ty_I],inv:=fun ((a,i):List Int×Int)=>0<=i/\i<=g.length/\g.length<=256/\a.length<=256/\mS a.length g/\a=(g.take i.toNat).foldl (fun a r=>a6 a r.1 r.2) b,mu:=fun ((_,i):List Int×Int)=>(g.length - i).toNat } }
 | _=>none
def E1:Spec:={ Ts:=[.arr bo],Rs:=[.own 45 bo,.dat ty_I],pre:=fun _=>True,F:=dS }
def uk:Prop :=
  ∀ (x:List Int),(x.length * 8<=aF/\∀ (x_1:Int),x_1∈x->am .u64 x_1)->True->True/\(decide ((aW x).2≠0)=true->([]:List Int)=(dS x).1/\(aW x).2=(dS x).2/\True)/\(decide ((aW x).2≠0)=false->True/\((aW x).1.length<=256/\∀ (s:ax),s∈(aW x).1->af s.2=0)/\((0:Int)<=0/\0<=(↑(aV false ([]:List dp) (aW x).1).length:Int)/\(aV false ([]:List dp) (aW x).1).length<=256/\x.length<=256/\mS (x.length:Int) (aV false ([]:List dp) (aW x).1)/\x=List.foldl (fun (a:List Int) (r:dp)=>a6 a r.1 r.2) x (List.take (Int.toNat 0) (aV false ([]:List dp) (aW x).1)))/\∀ (x_1:List Int×Int),0<=x_1.2/\x_1.2<=(↑(aV false ([]:List dp) (aW x).1).length:Int)/\(aV false ([]:List dp) (aW x).1).length<=256/\x_1.1.length<=256/\mS (x_1.1.length:Int) (aV false ([]:List dp) (aW x).1)/\x_1.1=List.foldl (fun (a:List Int) (r:dp)=>a6 a r.1 r.2) x (List.take x_1.2.toNat (aV false ([]:List dp) (aW x).1))->(decide (x_1.2<(↑(aV false ([]:List dp) (aW x).1).length:Int))=true->0<=x_1.2/\x_1.2<(↑(aV false ([]:List dp) (aW x).1).length:Int)/\x_1.2.toNat<(aV false ([]:List dp) (aW x).1).length/\(iA x_1.1 ((aV false ([]:List dp) (aW x).1).getD x_1.2.toNat (0,0)).1 ((aV false ([]:List dp) (aW x).1).getD x_1.2.toNat (0,0)).2/\1<=((aV false ([]:List dp) (aW x).1).getD x_1.2.toNat (0,0)).2)/\am .i64 (x_1.2+1)/\(0<=x_1.2+1/\x_1.2+1<=(↑(aV false ([]:List dp) (aW x).1).length:Int)/\(aV false ([]:List dp) (aW x).1).length<=256/\(a6 x_1.1 ((aV false ([]:List dp) (aW x).1).getD x_1.2.toNat (0,0)).1 ((aV false ([]:List dp) (aW x).1).getD x_1.2.toNat (0,0)).2).length<=256/\mS (↑(a6 x_1.1 ((aV false ([]:List dp) (aW x).1).getD x_1.2.toNat (0,0)).1 ((aV false ([]:List dp) (aW x).1).getD x_1.2.toNat (0,0)).2).length:Int) (aV false ([]:List dp) (aW x).1)/\a6 x_1.1 ((aV false ([]:List dp) (aW x).1).getD x_1.2.toNat (0,0)).1 ((aV false ([]:List dp) (aW x).1).getD x_1.2.toNat (0,0)).2=List.foldl (fun (a:List Int) (r:dp)=>a6 a r.1 r.2) x (List.take (x_1.2+1).toNat (aV false ([]:List dp) (aW x).1)))/\((↑(aV false ([]:List dp) (aW x).1).length:Int) - (x_1.2+1)).toNat<((↑(aV false ([]:List dp) (aW x).1).length:Int) - x_1.2).toNat)/\(decide (x_1.2<(↑(aV false ([]:List dp) (aW x).1).length:Int))=false->x_1.1=(dS x).1/\0=(dS x).2/\True))
theorem Bi:uk:=by
 unfold uk;intro a _ _;have h:=bJ (a:=a);have hlen:=cI a;unfold aW dS;refine ⟨trivial,fun hc=>?_,fun hc=>?_⟩
 ·have hc:(ai a).2.2≠0:=by
   intro e;rw [if_neg (by omega)] at hc;simp at hc
  rw [if_pos hc,if_pos hc];exact ⟨rfl,rfl,trivial⟩
 ·have hc:(ai a).2.2=0:=by
   apply Qm;intro e;rw [if_pos e] at hc;simp [e] at hc
  obtain ⟨hal,_,h3,h4,_,_,h5⟩:=h hc;rw [if_neg (by omega),if_neg (by omega)];rw [h3] at h5;obtain ⟨g1,g2⟩:=pT h4;simp only;generalize aV false [] (aa a).1=g at *;refine ⟨trivial,⟨hlen,fun s hs=>(h5 s hs).2⟩,⟨by omega,by omega,g2,hal,g1,rfl⟩,fun ⟨b,i⟩ ⟨q0,q1,_,q2,q3,q4⟩=>⟨fun hlt=>?_,fun hge=>?_⟩⟩
  ·have hlt:i<(g.length:Int):=Pt hlt;simp only at q0 q1 q2 q3 q4 |-;have e:=a7 ((0,0):dp) q0 hlt;have hr:=q3 _ (aH ((0,0):dp) q0 hlt);rw [e,Rr,<- q4];generalize g.getD i.toNat (0,0)=r at *;have hp:iA b r.1 r.2:=⟨hr.1,by omega,hr.2.2,q2⟩;rw [sV hp];simp only [am];exact ⟨q0,hlt,by omega,⟨hp,hr.2.1⟩,by omega,⟨by omega,by omega,g2,q2,q3,rfl⟩,by omega⟩
  ·have hge:¬ i<(g.length:Int):=Pu hge;simp only at q4;rw [bE hge] at q4;exact ⟨q4,trivial,trivial⟩
theorem FB:E1.ok Tryz.prog 156:=aA (ann:=Gi) (ac mJ (ac bA (ac uw (ac M3 ap)))) Tryz.func156 (by kernel_rfl) Bi
def bZ (l:List ax) (at_:Int) (fr:Bool):ax×Bool :=
 if ah (fun s:ax=>decide (s.1=at_)&&s.2.2.2.2 == fr) 0 l<0 then ((0,0,0,0,false),false) else (l.getD (ah (fun s:ax=>decide (s.1=at_)&&s.2.2.2.2 == fr) 0 l).toNat (0,0,0,0,false),true)
def KA:Spec:={ Ts:=[cE,.ref ty_I,.ref .bool],Rs:=[.dat .bool],pre:=fun _=>True,F:=fun ((s,at_,fr):ax×Int×Bool)=>decide (s.1=at_)&&s.2.2.2.2 == fr }
def Cz:Prop :=
  ∀ (x:(Int×Int×Int×Int×Bool)×Int×Bool),(am .i64 x.1.1/\am .i64 x.1.2.1/\am .i64 x.1.2.2.1/\am .i64 x.1.2.2.2.1/\True)/\am .i64 x.2.1/\True->True->(decide (x.1.1=x.2.1)&&x.1.2.2.2.2 == x.2.2)=(decide (x.1.1=x.2.1)&&x.1.2.2.2.2 == x.2.2)/\True
theorem HQ:Cz:=by
 unfold Cz;intro ⟨s,at_,fr⟩ _ _;simp
theorem K7:KA.ok Tryz.prog 252:=aA (ann:=cn) ap Tryz.func252 (by kernel_rfl) HQ
def E3:Spec:={ Ts:=[.arr cE,ty_I,.bool],Rs:=[.dat cE,.dat .bool],pre:=fun _=>True,F:=fun ((l,at_,fr):List ax×Int×Bool)=>bZ l at_ fr }
def um:Prop :=
  ∀ (x:List (Int×Int×Int×Int×Bool)×Int×Bool),(x.1.length * (8+(8+(8+(8+8))))<=aF/\∀ (x_1:Int×Int×Int×Int×Bool),x_1∈x.1->am .i64 x_1.1/\am .i64 x_1.2.1/\am .i64 x_1.2.2.1/\am .i64 x_1.2.2.2.1/\True)/\am .i64 x.2.1/\True->True->(∀ (s:ax),s∈x.1->(fun (_:Int×Int×Int×Int×Bool)=>True,fun (x_1:Int×Int×Int×Int×Bool)=>decide (x_1.1=x.2.1)&&x_1.2.2.2.2 == x.2.2).1 s)/\(decide (ah (fun (x_1:Int×Int×Int×Int×Bool)=>decide (x_1.1=x.2.1)&&x_1.2.2.2.2 == x.2.2) 0 x.1<0)=true->(0,0,0,0,false)=(bZ x.1 x.2.1 x.2.2).1/\false=(bZ x.1 x.2.1 x.2.2).2/\True)/\(decide (ah (fun (x_1:Int×Int×Int×Int×Bool)=>decide (x_1.1=x.2.1)&&x_1.2.2.2.2 == x.2.2) 0 x.1<0)=false->0<=ah (fun (x_1:Int×Int×Int×Int×Bool)=>decide (x_1.1=x.2.1)&&x_1.2.2.2.2 == x.2.2) 0 x.1/\ah (fun (x_1:Int×Int×Int×Int×Bool)=>decide (x_1.1=x.2.1)&&x_1.2.2.2.2 == x.2.2) 0 x.1<(x.1.length:Int)/\x.1.getD (ah (fun (x_1:Int×Int×Int×Int×Bool)=>decide (x_1.1=x.2.1)&&x_1.2.2.2.2 == x.2.2) 0 x.1).toNat (0,0,0,0,false)=(bZ x.1 x.2.1 x.2.2).1/\true=(bZ x.1 x.2.1 x.2.2).2/\True)
theorem Bk:um:=by
 unfold um;intro ⟨l,at_,fr⟩ _ _;simp only;have hlt:=eh (fun s:ax=>decide (s.1=at_)&&s.2.2.2.2 == fr) (0,0,0,0,false) l 0 (by omega);unfold bZ;refine ⟨fun _ _=>trivial,fun h=>?_,fun h=>?_⟩
 ·rw [if_pos (Pt h)];exact ⟨rfl,rfl,trivial⟩
 ·rw [if_neg (Pu h)];have h1:0<=ah (fun s:ax=>decide (s.1=at_)&&s.2.2.2.2 == fr) 0 l:=Int.not_lt.1 (Pu h);have h2:ah (fun s:ax=>decide (s.1=at_)&&s.2.2.2.2 == fr) 0 l<(l.length:Int):=by omega
  exact ⟨h1,h2,rfl,rfl,trivial⟩
theorem FC:E3.ok Tryz.prog 216:=aA (ann:=cn) (ac og (ac K7 ap)) Tryz.func216 (by kernel_rfl) Bk
theorem u0 (l:List ax) (at_:Int) (fr:Bool) (h:(bZ l at_ fr).2=true):(bZ l at_ fr).1∈l/\(bZ l at_ fr).1.1=at_/\(bZ l at_ fr).1.2.2.2.2=fr:=by
 have hlt:=eh (fun s:ax=>decide (s.1=at_)&&s.2.2.2.2 == fr) (0,0,0,0,false) l 0 (by omega);have his:=gX (fun s:ax=>decide (s.1=at_)&&s.2.2.2.2 == fr) (0,0,0,0,false) l 0;unfold bZ at h |-;split at h
 ·cases h
 ·rename_i hn;rw [if_neg hn];have his:=his (by omega) (by omega);rw [Sb] at his;simp only [Px,Qk,RP] at his;exact ⟨aH _ (by omega) (by omega),his.1,his.2⟩
theorem Ac {a:List Int}:(aW a).2=(ai a).2.2:=by
 unfold aW;split
 ·rfl
 ·simp only; omega
theorem yh {a:List Int} (h:(ai a).2.2=0):(aW a).1=(aa a).1/\a.length<=256/\∀ s∈(aa a).1,dm a s/\af s.2=0:=by
 obtain ⟨h1,_,h3,_,_,_,h5⟩:=bJ h;rw [h3] at h5;unfold aW;rw [if_neg (by omega)];exact ⟨rfl,h1,h5⟩
def iQ (a:List Int) (at_:Int) (h:ew):List Int×Int :=
 if af h≠0 then ([],af h) else if h.2.2.2=true then ([],3) else if (ai a).2.2≠0 then ([],(ai a).2.2)
 else if (bZ (aa a).1 at_ true).2=false then ([],5) else if ae (bZ (aa a).1 at_ true).1.2<ae h then ([],7)
 else (a6 ((eP a at_ (ae (bZ (aa a).1 at_ true).1.2) 0 (ae (bZ (aa a).1 at_ true).1.2)).set at_.toNat (aR h)) (at_+ae h) (ae (bZ (aa a).1 at_ true).1.2 - ae h),0)
def EZ:Spec:={ Ts:=[.arr bo,ty_I,eX],Rs:=[.dat (.arr bo),.dat ty_I],al:=true,pre:=fun _=>True,F:=fun ((a,at_,h):List Int×Int×ew)=>iQ a at_ h }
def ui:Prop :=
  ∀ (x:List Int×Int×Int×Int×Int×Bool),(fun (v1:type_of% (iQ x.1 x.2.1 x.2.2))=>(fun (v0:type_of% (bZ (aW x.1).1 x.2.1 true))=>(x.1.length * 8<=aF/\∀ (x_1:Int),x_1∈x.1->am .u64 x_1)/\am .i64 x.2.1/\am .i64 x.2.2.1/\am .i64 x.2.2.2.1/\am .i64 x.2.2.2.2.1/\True->True->True/\(decide (af x.2.2≠0)=true->([]:List Int)=v1.1/\af x.2.2=v1.2/\True)/\(decide (af x.2.2≠0)=false->(x.2.2.2.2.2=true->([]:List Int)=v1.1/\3=v1.2/\True)/\(x.2.2.2.2.2=false->True/\(decide ((aW x.1).2≠0)=true->([]:List Int)=v1.1/\(aW x.1).2=v1.2/\True)/\(decide ((aW x.1).2≠0)=false->True/\((!v0.2)=true->([]:List Int)=v1.1/\5=v1.2/\True)/\((!v0.2)=false->True/\True/\(decide ((if af v0.1.2=0 then ae v0.1.2 else (0:Int))<if af x.2.2=0 then ae x.2.2 else (0:Int))=true->([]:List Int)=v1.1/\7=v1.2/\True)/\(decide ((if af v0.1.2=0 then ae v0.1.2 else (0:Int))<if af x.2.2=0 then ae x.2.2 else (0:Int))=false->True/\True/\0<=x.2.1/\x.2.1<(↑(iv x.1 x.2.1 (if af v0.1.2=0 then ae v0.1.2 else (0:Int)) 0).1.length:Int)/\x.2.1.toNat<(iv x.1 x.2.1 (if af v0.1.2=0 then ae v0.1.2 else (0:Int)) 0).1.length/\True/\am .i64 (x.2.1+if af x.2.2=0 then ae x.2.2 else (0:Int))/\True/\True/\am .i64 ((if af v0.1.2=0 then ae v0.1.2 else (0:Int)) - if af x.2.2=0 then ae x.2.2 else (0:Int))/\iA ((iv x.1 x.2.1 (if af v0.1.2=0 then ae v0.1.2 else (0:Int)) 0).1.set x.2.1.toNat (if af x.2.2=0 then aR x.2.2 else (0:Int))) (x.2.1+if af x.2.2=0 then ae x.2.2 else (0:Int)) ((if af v0.1.2=0 then ae v0.1.2 else (0:Int)) - if af x.2.2=0 then ae x.2.2 else (0:Int))/\a6 ((iv x.1 x.2.1 (if af v0.1.2=0 then ae v0.1.2 else (0:Int)) 0).1.set x.2.1.toNat (if af x.2.2=0 then aR x.2.2 else (0:Int))) (x.2.1+if af x.2.2=0 then ae x.2.2 else (0:Int)) ((if af v0.1.2=0 then ae v0.1.2 else (0:Int)) - if af x.2.2=0 then ae x.2.2 else (0:Int))=v1.1/\0=v1.2/\True)))))) (bZ (aW x.1).1 x.2.1 true)) (iQ x.1 x.2.1 x.2.2)
theorem Bg:ui:=by
 unfold ui;intro ⟨a,at_,h⟩ _ _
 have hF:iQ a at_ h=if af h≠0 then ([],af h) else if h.2.2.2=true then ([],3) else if (ai a).2.2≠0 then ([],(ai a).2.2)
  else if (bZ (aa a).1 at_ true).2=false then ([],5) else if ae (bZ (aa a).1 at_ true).1.2<ae h then ([],7)
  else (a6 ((eP a at_ (ae (bZ (aa a).1 at_ true).1.2) 0 (ae (bZ (aa a).1 at_ true).1.2)).set at_.toNat (aR h)) (at_+ae h) (ae (bZ (aa a).1 at_ true).1.2 - ae h),0):=rfl
 simp only;rw [Ac];refine ⟨trivial,fun hc=>?_,fun hc=>⟨fun h2=>?_,fun h2=>⟨trivial,fun h3=>?_,fun h3=>?_⟩⟩⟩
 ·have hc:af h≠0:=by simpa using hc
  rw [hF,if_pos hc];exact ⟨rfl,rfl,trivial⟩
 ·have hc:af h=0:=by simpa using hc
  rw [hF,if_neg (by omega),if_pos h2];exact ⟨rfl,rfl,trivial⟩
 ·have hc:af h=0:=by simpa using hc
  have h3:(ai a).2.2≠0:=by simpa using h3
  rw [hF,if_neg (by omega),if_neg (by rw [h2]; simp),if_pos h3];exact ⟨rfl,rfl,trivial⟩
 have hc:af h=0:=by simpa using hc
 have h3:(ai a).2.2=0:=by simpa using h3
 obtain ⟨e1,hal,hsp⟩:=yh h3;have hfi:=u0 (aa a).1 at_ true;rw [if_neg (by omega),if_neg (by rw [h2]; simp),if_neg (by omega)] at hF;rw [e1,hF];refine ⟨trivial,fun h4=>?_,fun h4=>⟨trivial,trivial,fun h5=>?_,fun h5=>?_⟩⟩
 ·have h4:(bZ (aa a).1 at_ true).2=false:=by simpa using h4
  rw [if_pos h4];exact ⟨rfl,rfl,trivial⟩
 ·have h4:(bZ (aa a).1 at_ true).2=true:=by simpa using h4
  obtain ⟨q1,q2,q3⟩:=hfi h4;have hh:=(hsp _ q1).2;rw [if_pos hh,if_pos hc] at h5;have hn4:¬ (bZ (aa a).1 at_ true).2=false:=by rw [h4]; simp
  rw [if_neg hn4,if_pos (Pt h5)];exact ⟨rfl,rfl,trivial⟩
 ·have h4:(bZ (aa a).1 at_ true).2=true:=by simpa using h4
  obtain ⟨q1,q2,q3⟩:=hfi h4;obtain ⟨hin,hh⟩:=hsp _ q1;rw [if_pos hh,if_pos hc] at h5;have h5:=Pu h5;have hn4:¬ (bZ (aa a).1 at_ true).2=false:=by rw [h4]; simp
  rw [if_neg hn4,if_neg h5];have hz:=bG hc;have hn:ae h=1+h.1+h.2.1:=rfl;have hL:ae (bZ (aa a).1 at_ true).1.2=1+(bZ (aa a).1 at_ true).1.2.1+(bZ (aa a).1 at_ true).1.2.2.1:=rfl;unfold dm at hin;rw [if_pos hh,if_pos hc,if_pos hc];rw [q2] at hin;generalize ae (bZ (aa a).1 at_ true).1.2=L at *;have hp:iA a at_ L:=⟨by omega,by omega,by omega,hal⟩;have hl:=fY a at_ L 0 L (by omega) (by omega) (by omega) (by omega);rw [u5 hp];simp only [am];exact ⟨trivial,trivial,by omega,by omega,by omega,trivial,by omega,trivial,trivial,by omega,⟨by omega,by omega,by rw [Ra]; omega,by rw [Ra]; omega⟩,trivial,trivial,trivial⟩
theorem FA:EZ.ok Tryz.prog 157:=aA (ann:=cn) (ac iV (ac mJ (ac FC (ac uv (ac mH (ac M2 ap)))))) Tryz.func157 (by kernel_rfl) Bg
end
section
end
section
theorem JB (out:List dp) (k a b:Int):ma (out++[(k,a)]) b=out++[(k,a+b)]:=by
 unfold ma;simp
def ji (at_:Int):Int->List ax->Int
 | r,[]=>r
 | r,s::l=>ji at_ (if s.1=at_/\s.2.2.2.2=true then ae s.2 else r) l
theorem tV (at_:Int):∀ (l:List ax) (r:Int),(∀ s∈l,s.1≠at_)->ji at_ r l=r
 | [],_,_=>rfl
 | s::l,r,h=>by
  simp only [ji];rw [if_neg (fun e=>h s (by simp) e.1)];exact tV at_ l r (fun t ht=>h t (by simp [ht]))
theorem B9 (at_:Int):∀ (l:List ax) (r:Int),(∀ s∈l,¬ (s.1=at_/\s.2.2.2.2=true))->ji at_ r l=r
 | [],_,_=>rfl
 | s::l,r,h=>by
  simp only [ji];rw [if_neg (h s (by simp))];exact B9 at_ l r (fun t ht=>h t (by simp [ht]))
theorem tU {at_:Int}:∀ (l:List ax) (r:Int) (s:ax),l.Pairwise (fun s t=>s.1<t.1)->s∈l->s.1=at_->s.2.2.2.2=true->ji at_ r l=ae s.2
 | t::l,r,s,hs,hm,h1,h2=>by
  obtain ⟨p1,p2⟩:=Qe.1 hs;simp only [ji];rcases PD.1 hm with rfl | hm
  ·rw [if_pos ⟨h1,h2⟩];exact tV at_ l _ (fun u hu e=>by have:=p1 u hu; omega)
  ·exact tU l _ s p2 hm h1 h2
theorem Do {l:List ax} {at_:Int} {fr:Bool} (h:(bZ l at_ fr).2=false):∀ s∈l,¬ (s.1=at_/\s.2.2.2.2=fr):=by
 intro s hs ⟨h1,h2⟩;have ha:=ei (fun s:ax=>decide (s.1=at_)&&s.2.2.2.2 == fr) l 0 (by omega);have:(l.any fun s:ax=>decide (s.1=at_)&&s.2.2.2.2 == fr)=true:=Qt.2 ⟨s,hs,by simp [h1,h2]⟩;rw [this] at ha;have ha:=Pt ha;unfold bZ at h;rw [if_neg (by omega)] at h;cases h
theorem Aa {l:List ax} (hs:l.Pairwise (fun s t=>s.1<t.1)) (at_:Int):(cM at_ l).2=(bZ l at_ false).2/\((bZ l at_ false).2=true->(cM at_ l).1=(bZ l at_ false).1.2):=by
 cases h:(bZ l at_ false).2
 ·rcases iB at_ l with e | ⟨s,h1,h2,h3,_⟩
  ·rw [e]; exact ⟨rfl,fun h=>by cases h⟩
  ·exact absurd ⟨h2,h3⟩ (Do h s h1)
 ·obtain ⟨q1,q2,q3⟩:=u0 l at_ false h;have:=ov hs q1 q3;rw [q2] at this;rw [this];exact ⟨rfl,fun _=>rfl⟩
theorem Jm {b:List Int} {at_ n v k:Int} {i:Nat} (x:Int) (h:i<at_.toNat) (hl:at_.toNat<=b.length):eP (b.set i x) at_ n v k=(eP b at_ n v k).set i x:=by
 unfold eP l7;rw [List.take_set,List.drop_set,if_pos (by omega),List.set_append,if_pos (by rw [PM]; omega)]
theorem p9 {b:List Int} {at_ n:Int} {i:Nat} (x:Int) (h:i<at_.toNat) (hl:at_.toNat<=b.length):a6 (b.set i x) at_ n=(a6 b at_ n).set i x:=by
 unfold a6;split
 ·rw [Jm x h hl,List.set_comm _ _ (by omega)]
 ·rfl
theorem Jn {b:List Int} {at_ n:Int} {i:Nat} (h:at_.toNat<=i) (h2:i<at_.toNat+n.toNat) (hl:at_.toNat+n.toNat<=b.length):(eP b at_ n 0 n).getD i 0=0:=by
 unfold eP l7;have e:(List.take at_.toNat b).length=at_.toNat:=by rw [PM]; omega
 rw [List.getD_eq_getElem?_getD,List.getElem?_append_right (by omega),e,List.getElem?_append_left (by simp; omega)];rw [PJ (by simp),List.getElem?_replicate];split <;> rfl
theorem AA {b:List Int} {at_ n:Int} {i:Nat} (h:i<at_.toNat) (hl:at_.toNat<=b.length):(a6 b at_ n).getD i 0=b.getD i 0:=by
 unfold a6;split
 ·unfold eP l7;rw [List.getD_eq_getElem?_getD,List.getElem?_set_ne (by omega),List.getElem?_append_left (by rw [PM]; omega),List.getElem?_take,if_pos h];rfl
 ·rfl
theorem EA {a:List Int} {at_ L n:Int} (hp:iA a at_ L) (h1:1<=n) (h2:n<=L) (hw:Int) :
  (a6 (a6 a at_ L) (at_+n) (L - n)).set at_.toNat hw=a6 ((eP a at_ L 0 L).set at_.toNat hw) (at_+n) (L - n) /\
  ∀ j,1<=j->j<n->((a6 (a6 a at_ L) (at_+n) (L - n)).set at_.toNat hw).getD (at_+j).toNat 0=0:=by
 obtain ⟨p1,p2,p3,p4⟩:=hp;have hl:=fY a at_ L 0 L p1 p3 p2 (by omega);have hE:a6 a at_ L=(eP a at_ L 0 L).set at_.toNat (aR (0,L - 1,0,true)):=by unfold a6; rw [if_pos (by omega)]
 rw [hE,p9 _ (by omega) (by omega),p9 _ (by omega) (by omega),List.set_set];refine ⟨rfl,fun j h3 h4=>?_⟩;rw [List.getD_eq_getElem?_getD,List.getElem?_set_ne (by omega),<- List.getD_eq_getElem?_getD,AA (by omega) (by omega)];exact Jn (by omega) (by omega) (by omega)
def sR (h:ew):Int:=if af h=0/\h.2.2.2=true then 3 else af h
def fP (e r n:Int):Int:=if e≠0 then e else if r=0 then 5 else if r<n then 7 else 0
theorem EB {a:List Int} (hz:(ai a).2.2=0) (at_:Int) (h:ew) :
  iQ a at_ h=(if fP (sR h) (ji at_ 0 (aa a).1) (ae h)≠0 then [] else a6 ((eP a at_ (ji at_ 0 (aa a).1) 0 (ji at_ 0 (aa a).1)).set at_.toNat (aR h)) (at_+ae h) (ji at_ 0 (aa a).1 - ae h),fP (sR h) (ji at_ 0 (aa a).1) (ae h)) /\
  (fP (sR h) (ji at_ 0 (aa a).1) (ae h)=0->iA a at_ (ji at_ 0 (aa a).1)/\1<=ae h/\ae h<=ji at_ 0 (aa a).1/\af h=0):=by
 obtain ⟨_,hal,hsp⟩:=yh hz
 have hF:iQ a at_ h=if af h≠0 then ([],af h) else if h.2.2.2=true then ([],3) else if (ai a).2.2≠0 then ([],(ai a).2.2)
  else if (bZ (aa a).1 at_ true).2=false then ([],5) else if ae (bZ (aa a).1 at_ true).1.2<ae h then ([],7)
  else (a6 ((eP a at_ (ae (bZ (aa a).1 at_ true).1.2) 0 (ae (bZ (aa a).1 at_ true).1.2)).set at_.toNat (aR h)) (at_+ae h) (ae (bZ (aa a).1 at_ true).1.2 - ae h),0):=rfl
 rw [hF];by_cases h1:af h=0
 ·rw [if_neg (by omega)];have hz1:=bG h1;have hn:ae h=1+h.1+h.2.1:=rfl;cases h2:h.2.2.2
  ·have e0:sR h=0:=by unfold sR; rw [h2,if_neg (by simp),h1]
   rw [e0,if_neg (by simp),if_neg (by omega)];cases h3:(bZ (aa a).1 at_ true).2
   ·rw [B9 at_ _ 0 (Do h3),if_pos rfl];have e1:fP 0 0 (ae h)=5:=rfl;rw [e1,if_pos (by omega)];exact ⟨rfl,fun h=>by omega⟩
   ·obtain ⟨q1,q2,q3⟩:=u0 (aa a).1 at_ true h3;rw [tU _ 0 _ (bz a) q1 q2 q3,if_neg (by simp)];obtain ⟨hin,hh⟩:=hsp _ q1;have hz2:=bG hh;have hL:ae (bZ (aa a).1 at_ true).1.2=1+(bZ (aa a).1 at_ true).1.2.1+(bZ (aa a).1 at_ true).1.2.2.1:=rfl;unfold dm at hin;rw [q2] at hin;generalize ae (bZ (aa a).1 at_ true).1.2=L at *;by_cases h4:L<ae h
    ·have e1:fP 0 L (ae h)=7:=by unfold fP; rw [if_neg (by omega),if_neg (by omega),if_pos h4]
     rw [e1,if_pos h4,if_pos (by omega)];exact ⟨rfl,fun h=>by omega⟩
    ·have e1:fP 0 L (ae h)=0:=by unfold fP; rw [if_neg (by omega),if_neg (by omega),if_neg h4]
     rw [e1,if_neg h4,if_neg (by omega)];exact ⟨rfl,fun _=>⟨⟨by omega,by omega,by omega,hal⟩,by omega,by omega,h1⟩⟩
  ·have e0:sR h=3:=by unfold sR; rw [h2,if_pos ⟨h1,rfl⟩]
   rw [e0,if_pos rfl];have e1:∀ r,fP 3 r (ae h)=3:=fun _=>rfl
   rw [e1,if_pos (by omega)];exact ⟨rfl,fun h=>by omega⟩
 ·have e0:sR h=af h:=by unfold sR; rw [if_neg (fun e=>h1 e.1)]
  have e1:∀ r,fP (af h) r (ae h)=af h:=fun _=>by unfold fP; rw [if_pos h1]
  rw [e0,if_pos h1,e1,if_pos h1];exact ⟨rfl,fun h=>absurd h h1⟩
end
section
def ef (l:List ax) (at_:Int):Int:=ae (cM at_ l).1
def aX (a keep pinned:List Int):List Int×Int :=
 if (ai a).2.2≠0 then ([],(ai a).2.2) else if (aK keep&&aK pinned)=false then ([],3)
 else if (keep.all (isB (aa a).1))=false then ([],5) else if (pinned.all (cu keep))=false then ([],5) else (keep.map (ef (aa a).1),0)
theorem Lp {l:List ax} (hs:l.Pairwise (fun s t=>s.1<t.1)) (at_:Int) :
  (ah (fun s:ax=>decide (s.1=at_)&&!s.2.2.2.2) 0 l<0->isB l at_=false) /\
  (¬ ah (fun s:ax=>decide (s.1=at_)&&!s.2.2.2.2) 0 l<0->isB l at_=true/\ah (fun s:ax=>decide (s.1=at_)&&!s.2.2.2.2) 0 l<(l.length:Int) /\
   (l.getD (ah (fun s:ax=>decide (s.1=at_)&&!s.2.2.2.2) 0 l).toNat (0,0,0,0,false)).2=(cM at_ l).1/\l.getD (ah (fun s:ax=>decide (s.1=at_)&&!s.2.2.2.2) 0 l).toNat (0,0,0,0,false)∈l):=by
 have hf:(fun s:ax=>decide (s.1=at_)&&!s.2.2.2.2)=(fun s:ax=>decide (s.1=at_)&&s.2.2.2.2 == false):=by
  funext s;cases s.2.2.2.2 <;> rfl
 obtain ⟨k1,k2⟩:=Aa hs at_;have hlt:=eh (fun s:ax=>decide (s.1=at_)&&s.2.2.2.2 == false) (0,0,0,0,false) l 0 (by omega);rw [hf];unfold isB;refine ⟨fun h=>?_,fun h=>?_⟩
 ·rw [k1];unfold bZ;rw [if_pos h]
 ·have e:bZ l at_ false=(l.getD (ah (fun s:ax=>decide (s.1=at_)&&s.2.2.2.2 == false) 0 l).toNat (0,0,0,0,false),true):=by
   unfold bZ;rw [if_neg h]
  have k3:=k2 (by rw [e]);rw [k1,k3,e];exact ⟨rfl,by omega,rfl,aH _ (by omega) (by omega)⟩
def Ii:Spec:={ Ts:=[cE,.ref ty_I],Rs:=[.dat .bool],pre:=fun _=>True,F:=fun ((s,at_):ax×Int)=>decide (s.1=at_)&&!s.2.2.2.2 }
def xE:Prop :=
  ∀ (x:(Int×Int×Int×Int×Bool)×Int),(am .i64 x.1.1/\am .i64 x.1.2.1/\am .i64 x.1.2.2.1/\am .i64 x.1.2.2.2.1/\True)/\am .i64 x.2->True->(decide (x.1.1=x.2)&&!x.1.2.2.2.2)=(decide (x.1.1=x.2)&&!x.1.2.2.2.2)/\True
theorem Ek:xE:=by
 unfold xE;intro ⟨s,at_⟩ _ _;simp
theorem IS:Ii.ok Tryz.prog 289:=aA (ann:=cn) ap Tryz.func289 (by kernel_rfl) Ek
def EV:Spec:={ Ts:=[ty_I,.ref (.arr ty_I)],Rs:=[.dat .bool],pre:=fun _=>True,F:=fun ((at_,keep):Int×List Int)=>!cu keep at_ }
def ue:Prop :=
  ∀ (x:Int×List Int),(am .i64 x.1/\x.2.length * 8<=aF/\∀ (x_1:Int),x_1∈x.2->am .i64 x_1)->True->True/\(!cu x.2 x.1)=!cu x.2 x.1/\True
theorem Bc:ue:=by
 unfold ue;intro _ _ _;exact ⟨trivial,rfl,trivial⟩
theorem Fx:EV.ok Tryz.prog 290:=aA (ann:=cn) (ac lG ap) Tryz.func290 (by kernel_rfl) Bc
def Mm:Nat->Option LoopGen
 | 9=>some { rd:=[.own 9 202 cE,.dat 35 (.arr ty_I)],A:=fun ((l,keep):List ax×List Int)=>{ cs:=[.own 11 3 ty_I,.dat 37 ty_I],inv:=fun ((out,i):List Int×Int)=>0<=i/\i<=keep.length/\(keep.drop i.toNat).all (isB l)=keep.all (isB l)/\out=(keep.take i.toNat).map (ef l),mu:=fun ((_,i):List Int×Int)=>(keep.length - i).toNat } }
 | _=>none
def Kw:Spec:={ Ts:=[.arr bo,.arr ty_I,.arr ty_I],Rs:=[.own 3 ty_I,.dat ty_I],pre:=fun _=>True,F:=fun ((a,keep,pinned):List Int×List Int×List Int)=>aX a keep pinned }
def Cw:Prop :=
  ∀ (x:List Int×List Int×List Int),((x.1.length * 8<=aF/\∀ (x_1:Int),x_1∈x.1->am .u64 x_1)/\(x.2.1.length * 8<=aF/\∀ (x_1:Int),x_1∈x.2.1->am .i64 x_1)/\x.2.2.length * 8<=aF/\∀ (x_1:Int),x_1∈x.2.2->am .i64 x_1)->True->True/\(decide ((ai x.1).2.2≠0)=true->([]:List Int)=(aX x.1 x.2.1 x.2.2).1/\(ai x.1).2.2=(aX x.1 x.2.1 x.2.2).2/\True)/\(decide ((ai x.1).2.2≠0)=false->True/\((!aK x.2.1)=false->True)/\((!aK x.2.1||!aK x.2.2)=true->([]:List Int)=(aX x.1 x.2.1 x.2.2).1/\3=(aX x.1 x.2.1 x.2.2).2/\True)/\((!aK x.2.1||!aK x.2.2)=false->True/\((0:Int)<=0/\0<=(x.2.1.length:Int)/\(List.drop (Int.toNat 0) x.2.1).all (isB (aa x.1).1)=x.2.1.all (isB (aa x.1).1)/\([]:List Int)=List.map (ef (aa x.1).1) (List.take (Int.toNat 0) x.2.1))/\∀ (x_1:List Int×Int),0<=x_1.2/\x_1.2<=(x.2.1.length:Int)/\(List.drop x_1.2.toNat x.2.1).all (isB (aa x.1).1)=x.2.1.all (isB (aa x.1).1)/\x_1.1=List.map (ef (aa x.1).1) (List.take x_1.2.toNat x.2.1)->(decide (x_1.2<(x.2.1.length:Int))=true->0<=x_1.2/\x_1.2<(x.2.1.length:Int)/\(∀ (s:ax),s∈(aa x.1).1->(fun (_:Int×Int×Int×Int×Bool)=>True,fun (x_2:Int×Int×Int×Int×Bool)=>decide (x_2.1=x.2.1.getD x_1.2.toNat 0)&&!x_2.2.2.2.2).1 s)/\(decide (ah (fun (x_2:Int×Int×Int×Int×Bool)=>decide (x_2.1=x.2.1.getD x_1.2.toNat 0)&&!x_2.2.2.2.2) 0 (aa x.1).1<0)=true->([]:List Int)=(aX x.1 x.2.1 x.2.2).1/\5=(aX x.1 x.2.1 x.2.2).2/\True)/\(decide (ah (fun (x_2:Int×Int×Int×Int×Bool)=>decide (x_2.1=x.2.1.getD x_1.2.toNat 0)&&!x_2.2.2.2.2) 0 (aa x.1).1<0)=false->0<=ah (fun (x_2:Int×Int×Int×Int×Bool)=>decide (x_2.1=x.2.1.getD x_1.2.toNat 0)&&!x_2.2.2.2.2) 0 (aa x.1).1/\ah (fun (x_2:Int×Int×Int×Int×Bool)=>decide (x_2.1=x.2.1.getD x_1.2.toNat 0)&&!x_2.2.2.2.2) 0 (aa x.1).1<(↑(aa x.1).1.length:Int)/\(ah (fun (x_2:Int×Int×Int×Int×Bool)=>decide (x_2.1=x.2.1.getD x_1.2.toNat 0)&&!x_2.2.2.2.2) 0 (aa x.1).1).toNat<(aa x.1).1.length/\True/\(x_1.1.length+[if af ((aa x.1).1.getD (ah (fun (x_2:Int×Int×Int×Int×Bool)=>decide (x_2.1=x.2.1.getD x_1.2.toNat 0)&&!x_2.2.2.2.2) 0 (aa x.1).1).toNat (0,0,0,0,false)).2=0 then ae ((aa x.1).1.getD (ah (fun (x_2:Int×Int×Int×Int×Bool)=>decide (x_2.1=x.2.1.getD x_1.2.toNat 0)&&!x_2.2.2.2.2) 0 (aa x.1).1).toNat (0,0,0,0,false)).2 else (0:Int)].length) * 8<=aF/\am .i64 (x_1.2+1)/\(0<=x_1.2+1/\x_1.2+1<=(x.2.1.length:Int)/\(List.drop (x_1.2+1).toNat x.2.1).all (isB (aa x.1).1)=x.2.1.all (isB (aa x.1).1)/\x_1.1++[if af ((aa x.1).1.getD (ah (fun (x_2:Int×Int×Int×Int×Bool)=>decide (x_2.1=x.2.1.getD x_1.2.toNat 0)&&!x_2.2.2.2.2) 0 (aa x.1).1).toNat (0,0,0,0,false)).2=0 then ae ((aa x.1).1.getD (ah (fun (x_2:Int×Int×Int×Int×Bool)=>decide (x_2.1=x.2.1.getD x_1.2.toNat 0)&&!x_2.2.2.2.2) 0 (aa x.1).1).toNat (0,0,0,0,false)).2 else (0:Int)]=List.map (ef (aa x.1).1) (List.take (x_1.2+1).toNat x.2.1))/\((x.2.1.length:Int) - (x_1.2+1)).toNat<((x.2.1.length:Int) - x_1.2).toNat))/\(decide (x_1.2<(x.2.1.length:Int))=false->(∀ (s:Int),s∈x.2.2->(fun (_:Int)=>True,fun (x_2:Int)=>!cu x.2.1 x_2).1 s)/\((x.2.2.any fun (x_2:Int)=>!cu x.2.1 x_2)=true->([]:List Int)=(aX x.1 x.2.1 x.2.2).1/\5=(aX x.1 x.2.1 x.2.2).2/\True)/\((x.2.2.any fun (x_2:Int)=>!cu x.2.1 x_2)=false->x_1.1=(aX x.1 x.2.1 x.2.2).1/\0=(aX x.1 x.2.1 x.2.2).2/\True))))
theorem HN:Cw:=by
 unfold Cw;intro ⟨a,keep,pinned⟩ ⟨_,⟨hb,_⟩,_⟩ _;unfold aF at hb;simp only at hb |-
 have hF:aX a keep pinned=if (ai a).2.2≠0 then ([],(ai a).2.2) else if (aK keep&&aK pinned)=false then ([],3)
  else if (keep.all (isB (aa a).1))=false then ([],5) else if (pinned.all (cu keep))=false then ([],5) else (keep.map (ef (aa a).1),0):=rfl
 rw [hF];refine ⟨trivial,fun hc=>?_,fun hc=>⟨trivial,fun _=>trivial,fun hr=>?_,fun hr=>⟨trivial,⟨by omega,by omega,rfl,rfl⟩,fun ⟨out,i⟩ ⟨h0,h1,h2,h3⟩=>⟨fun hlt=>?_,fun hge=>?_⟩⟩⟩⟩
 ·rw [if_pos (Pt hc)];exact ⟨rfl,rfl,trivial⟩
 ·rw [if_neg (Pu hc),if_pos (by revert hr; cases aK keep <;> cases aK pinned <;> simp)];exact ⟨rfl,rfl,trivial⟩
 ·have hlt:i<(keep.length:Int):=Pt hlt;simp only at h0 h1 h2 h3 |-;rw [if_neg (Pu hc),if_neg (by revert hr; cases aK keep <;> cases aK pinned <;> simp)];rw [bg (0:Int) h0 hlt,Qv] at h2;have hts:=a7 (0:Int) h0 hlt;obtain ⟨f1,f2⟩:=Lp (bz a) (keep.getD i.toNat 0);rw [hts];generalize keep.getD i.toNat 0=at_ at *;refine ⟨h0,hlt,fun _ _=>trivial,fun hn=>?_,fun hn=>?_⟩
  ·rw [f1 (Pt hn),Q8] at h2;rw [if_pos h2.symm];exact ⟨rfl,rfl,trivial⟩
  ·obtain ⟨g1,g2,g3,g4⟩:=f2 (Pu hn);have hn:¬ ah (fun s:ax=>decide (s.1=at_)&&!s.2.2.2.2) 0 (aa a).1<0:=Pu hn;rw [g1,QL] at h2;have hh:=(eY a _ g4).2.2;rw [g3] at hh |-;rw [if_pos hh];have hl:out.length=i.toNat:=by rw [h3,Qc,PM]; omega
   unfold aF;simp only [am,Pz,P4];refine ⟨Int.not_lt.1 hn,g2,(Int.toNat_lt (Int.not_lt.1 hn)).2 g2,trivial,by omega,by omega,⟨by omega,by omega,h2,?_⟩,by omega⟩;rw [Qn,<- h3];rfl
 ·have hge:¬ i<(keep.length:Int):=Pu hge;simp only at h2 h3 |-;rw [b6 hge,RH] at h2;rw [bE hge] at h3;rw [if_neg (Pu hc),if_neg (by revert hr; cases aK keep <;> cases aK pinned <;> simp),if_neg (by rw [<- h2]; simp)];have e:(pinned.any fun at_=>!cu keep at_)=!(pinned.all (cu keep)):=by rw [List.not_all_eq_any_not]
  refine ⟨fun _ _=>trivial,fun hp=>?_,fun hp=>?_⟩
  ·rw [e] at hp;rw [if_pos (by simpa using hp)];exact ⟨rfl,rfl,trivial⟩
  ·rw [e] at hp;rw [if_neg (by simpa using hp)];exact ⟨h3,rfl,trivial⟩
theorem CO:Kw.ok Tryz.prog 270:=aA (ann:=Mm) (ac fT (ac K0 (ac fS (ac og (ac IS (ac jr (ac py (ac Fx ap)))))))) Tryz.func270 (by kernel_rfl) HN
def bt (pinned keep long:List Int):Nat->Int
 | 0=>0
 | i+1=>(if cu pinned (keep.getD i 0)=true then keep.getD i 0 else bt pinned keep long i)+long.getD i 0
def fN (pinned keep long:List Int) (i:Nat):Int:=if cu pinned (keep.getD i 0)=true then keep.getD i 0 else bt pinned keep long i
def aG (keep long pinned:List Int):List Int:=(List.range keep.length).map (fN pinned keep long)
def jq (keep long:List Int):Prop:=long.length=keep.length/\keep.length<=256/\(∀ x∈keep,0<=x/\x<=255)/\∀ n∈long,1<=n/\n<=256
theorem cO {keep long:List Int} (pinned:List Int) (h:jq keep long):∀ i:Nat,i<=keep.length->0<=bt pinned keep long i/\bt pinned keep long i<=512 * i
 | 0,_=>by simp [bt]
 | i+1,hi=>by
  have ih:=cO pinned h i (by omega);obtain ⟨h1,h2,h3,h4⟩:=h;have k1:=h3 _ (aH (0:Int) (xs:=keep) (i:=i) (by omega) (by omega));have k2:=h4 _ (aH (0:Int) (xs:=long) (i:=i) (by omega) (by omega));simp only [QC] at k1 k2;simp only [bt];split <;> omega
theorem qx {keep long:List Int} (pinned:List Int) (h:jq keep long) {i:Nat} (hi:i<keep.length):0<=fN pinned keep long i/\fN pinned keep long i<=512 * i+255:=by
 have h0:=cO pinned h i (by omega);have k1:=h.2.2.1 _ (aH (0:Int) (xs:=keep) (i:=i) (by omega) (by omega));simp only [QC] at k1;unfold fN;split <;> omega
def NC:Nat->Option LoopGen
 | 4=>some { rd:=[.dat 11 (.arr ty_I),.dat 1 (.arr ty_I),.dat 2 (.arr ty_I)],A:=fun ((keep,long,pinned):List Int×List Int×List Int)=>{ cs:=[.own 7 3 ty_I,.dat 8 ty_I,.dat 13 ty_I],inv:=fun ((out,e,i):List Int×Int×Int)=>0<=i/\i<=keep.length/\out=(List.range i.toNat).map (fN pinned keep long)/\e=bt pinned keep long i.toNat,mu:=fun ((_,_,i):List Int×Int×Int)=>(keep.length - i).toNat } }
 | _=>none
def MI:Spec:={ Ts:=[.arr ty_I,.arr ty_I,.arr ty_I],Rs:=[.own 3 ty_I],pre:=fun ((keep,long,_):List Int×List Int×List Int)=>jq keep long,F:=fun ((keep,long,pinned):List Int×List Int×List Int)=>aG keep long pinned }
def GD:Prop :=
  ∀ (x:List Int×List Int×List Int),((x.1.length * 8<=aF/\∀ (x_1:Int),x_1∈x.1->am .i64 x_1)/\(x.2.1.length * 8<=aF/\∀ (x_1:Int),x_1∈x.2.1->am .i64 x_1)/\x.2.2.length * 8<=aF/\∀ (x_1:Int),x_1∈x.2.2->am .i64 x_1)->jq x.1 x.2.1->((0:Int)<=0/\0<=(x.1.length:Int)/\([]:List Int)=List.map (fN x.2.2 x.1 x.2.1) (List.range (Int.toNat 0))/\0=bt x.2.2 x.1 x.2.1 (Int.toNat 0))/\∀ (x_1:List Int×Int×Int),0<=x_1.2.2/\x_1.2.2<=(x.1.length:Int)/\x_1.1=List.map (fN x.2.2 x.1 x.2.1) (List.range x_1.2.2.toNat)/\x_1.2.1=bt x.2.2 x.1 x.2.1 x_1.2.2.toNat->(decide (x_1.2.2<(x.1.length:Int))=true->0<=x_1.2.2/\x_1.2.2<(x.1.length:Int)/\True/\((!cu x.2.2 (x.1.getD x_1.2.2.toNat 0))=true->(x_1.1.length+[x_1.2.1].length) * 8<=aF/\0<=x_1.2.2/\x_1.2.2<(x.2.1.length:Int)/\am .i64 (x_1.2.1+x.2.1.getD x_1.2.2.toNat 0)/\am .i64 (x_1.2.2+1)/\(0<=x_1.2.2+1/\x_1.2.2+1<=(x.1.length:Int)/\x_1.1++[x_1.2.1]=List.map (fN x.2.2 x.1 x.2.1) (List.range (x_1.2.2+1).toNat)/\x_1.2.1+x.2.1.getD x_1.2.2.toNat 0=bt x.2.2 x.1 x.2.1 (x_1.2.2+1).toNat)/\((x.1.length:Int) - (x_1.2.2+1)).toNat<((x.1.length:Int) - x_1.2.2).toNat)/\((!cu x.2.2 (x.1.getD x_1.2.2.toNat 0))=false->(x_1.1.length+[x.1.getD x_1.2.2.toNat 0].length) * 8<=aF/\0<=x_1.2.2/\x_1.2.2<(x.2.1.length:Int)/\am .i64 (x.1.getD x_1.2.2.toNat 0+x.2.1.getD x_1.2.2.toNat 0)/\am .i64 (x_1.2.2+1)/\(0<=x_1.2.2+1/\x_1.2.2+1<=(x.1.length:Int)/\x_1.1++[x.1.getD x_1.2.2.toNat 0]=List.map (fN x.2.2 x.1 x.2.1) (List.range (x_1.2.2+1).toNat)/\x.1.getD x_1.2.2.toNat 0+x.2.1.getD x_1.2.2.toNat 0=bt x.2.2 x.1 x.2.1 (x_1.2.2+1).toNat)/\((x.1.length:Int) - (x_1.2.2+1)).toNat<((x.1.length:Int) - x_1.2.2).toNat))/\(decide (x_1.2.2<(x.1.length:Int))=false->x_1.1=aG x.1 x.2.1 x.2.2/\True)
theorem JU:GD:=by
 unfold GD;intro ⟨keep,long,pinned⟩ _ hp;have hp':=hp;obtain ⟨p1,p2,p3,p4⟩:=hp';simp only at p1 p2 p3 p4 hp |-;refine ⟨⟨by omega,by omega,rfl,rfl⟩,fun ⟨out,e,i⟩ ⟨h0,h1,h2,h3⟩=>⟨fun hlt=>?_,fun hge=>?_⟩⟩
 ·have hlt':i<(keep.length:Int):=Pt hlt;simp only at h0 h1 h2 h3 |-;have ht:=qx pinned hp (i:=i.toNat) (by omega);have he:=cO pinned hp (i.toNat+1) (by omega);have k1:=p3 _ (aH (0:Int) h0 hlt');have k2:=p4 _ (aH (0:Int) (xs:=long) h0 (by omega))
  have hs:out++[fN pinned keep long i.toNat]=(List.range (i+1).toNat).map (fN pinned keep long):=by
   rw [show (i+1).toNat=i.toNat+1 by omega,List.range_succ,Qn,<- h2];rfl
  have hE:bt pinned keep long (i+1).toNat=fN pinned keep long i.toNat+long.getD i.toNat 0:=by
   rw [show (i+1).toNat=i.toNat+1 by omega];rfl
  have hl:out.length=i.toNat:=by rw [h2]; simp
  rw [hE,<- hs];subst h3;unfold aF;simp only [am,Pz,P4];have hT:fN pinned keep long i.toNat=if cu pinned (keep.getD i.toNat 0)=true then keep.getD i.toNat 0 else bt pinned keep long i.toNat:=rfl
  have hE':bt pinned keep long (i.toNat+1)=fN pinned keep long i.toNat+long.getD i.toNat 0:=rfl;rw [hE'] at he;refine ⟨h0,hlt',trivial,fun hc=>?_,fun hc=>?_⟩
  ·have hc:cu pinned (keep.getD i.toNat 0)=false:=by simpa using hc
   rw [if_neg (by rw [hc]; simp)] at hT;rw [hT] at he |-;exact ⟨by omega,h0,by omega,by omega,by omega,⟨by omega,by omega,rfl,rfl⟩,by omega⟩
  ·have hc:cu pinned (keep.getD i.toNat 0)=true:=by simpa using hc
   rw [if_pos hc] at hT;rw [hT] at he |-;exact ⟨by omega,h0,by omega,by omega,by omega,⟨by omega,by omega,rfl,rfl⟩,by omega⟩
 ·have hge:¬ i<(keep.length:Int):=Pu hge;simp only at h0 h1 h2;rw [h2,show i.toNat=keep.length by omega];exact ⟨rfl,trivial⟩
theorem GV:MI.ok Tryz.prog 271:=aA (ann:=NC) (ac lG ap) Tryz.func271 (by kernel_rfl) JU
def Ih:Spec:={ Ts:=[.arr bo,.arr ty_I,.arr ty_I],Rs:=[.own 3 ty_I,.dat ty_I],pre:=fun _=>True,F:=fun ((a,keep,pinned):List Int×List Int×List Int)=>((if (aX a keep pinned).2≠0 then [] else aG keep (aX a keep pinned).1 pinned,(aX a keep pinned).2):List Int×Int) }
theorem dX:∀ {l:List Int},aK l=true->l.Pairwise (·<·)
 | [],_=>List.Pairwise.nil
 | [x],_=>by simp
 | x::y::l,h=>by
  simp only [aK,Px,Qk] at h;have ih:=dX h.2;refine Qe.2 ⟨fun z hz=>?_,ih⟩;rcases PD.1 hz with rfl | hz
  ·exact h.1
  ·have:=(Qe.1 ih).1 z hz;omega
theorem jd:∀ {l:List Int} {s:Int},l.Pairwise (·<·)->(∀ x∈l,s<=x/\x<=255)->s<=256->(l.length:Int)<=256 - s
 | [],s,_,_,h=>by simp; omega
 | x::l,s,hp,hr,_=>by
  obtain ⟨h1,h2⟩:=Qe.1 hp;have h3:=hr x (by simp);have ih:=jd (s:=x+1) h2 (fun y hy=>by have:=h1 y hy; have:=hr y (by simp [hy]); omega) (by omega);simp only [Pz];omega
theorem uQ {a:List Int} {at_:Int} (h:isB (aa a).1 at_=true):∃ s∈(aa a).1,s.1=at_/\s.2.2.2.2=false/\ef (aa a).1 at_=ae s.2:=by
 unfold isB ef at *;rcases iB at_ (aa a).1 with e | ⟨s,h1,h2,h3,e⟩
 ·rw [e] at h; cases h
 ·exact ⟨s,h1,h2,h3,by rw [e]⟩
theorem uE {a keep pinned:List Int} (h:(aX a keep pinned).2=0):(ai a).2.2=0/\aK keep=true/\aK pinned=true/\(∀ x∈keep,isB (aa a).1 x=true)/\(∀ x∈pinned,cu keep x=true)/\(aX a keep pinned).1=keep.map (ef (aa a).1):=by
 unfold aX at *;by_cases h1:(ai a).2.2≠0
 ·rw [if_pos h1] at h; exact absurd h h1
 rw [if_neg h1] at h |-;by_cases h2:(aK keep&&aK pinned)=false
 ·rw [if_pos h2] at h; simp at h
 rw [if_neg h2] at h |-;by_cases h3:(keep.all (isB (aa a).1))=false
 ·rw [if_pos h3] at h; simp at h
 rw [if_neg h3] at h |-;by_cases h4:(pinned.all (cu keep))=false
 ·rw [if_pos h4] at h; simp at h
 rw [if_neg h4];have h2:aK keep=true/\aK pinned=true:=by simpa using h2
 have h3:keep.all (isB (aa a).1)=true:=by simpa using h3
 have h4:pinned.all (cu keep)=true:=by simpa using h4
 exact ⟨by omega,h2.1,h2.2,fun x hx=>PA.1 h3 x hx,fun x hx=>PA.1 h4 x hx,rfl⟩
theorem qM {a keep pinned:List Int} (h:(aX a keep pinned).2=0):jq keep (aX a keep pinned).1:=by
 obtain ⟨_,h2,_,h4,_,h6⟩:=uE h
 have hr:∀ x∈keep,0<=x/\x<=255:=fun x hx=>by
  obtain ⟨s,h1,h2,_⟩:=uQ (h4 x hx);have:=gL s h1;omega
 have hl:=jd (dX h2) hr (by omega);refine ⟨by rw [h6]; simp,by omega,hr,fun n hn=>?_⟩;rw [h6] at hn;obtain ⟨x,hx,rfl⟩:=P3.1 hn;obtain ⟨s,h1,_,_,e⟩:=uQ (h4 x hx);have hz:=bG (eY a s h1).2.2;rw [e];unfold ae;omega
def xD:Prop :=
  ∀ (x:List Int×List Int×List Int),(fun (v0:type_of% (aX x.1 x.2.1 x.2.2))=>((x.1.length * 8<=aF/\∀ (x_1:Int),x_1∈x.1->am .u64 x_1)/\(x.2.1.length * 8<=aF/\∀ (x_1:Int),x_1∈x.2.1->am .i64 x_1)/\x.2.2.length * 8<=aF/\∀ (x_1:Int),x_1∈x.2.2->am .i64 x_1)->True->True/\(decide (v0.2≠0)=true->(([]:List Int)=if v0.2≠0 then ([]:List Int) else aG x.2.1 v0.1 x.2.2)/\v0.2=v0.2/\True)/\(decide (v0.2≠0)=false->jq x.2.1 v0.1/\(aG x.2.1 v0.1 x.2.2=if v0.2≠0 then ([]:List Int) else aG x.2.1 v0.1 x.2.2)/\0=v0.2/\True)) (aX x.1 x.2.1 x.2.2)
theorem Ej:xD:=by
 unfold xD;intro ⟨a,keep,pinned⟩ _ _;simp only;refine ⟨trivial,fun hc=>?_,fun hc=>?_⟩
 ·rw [if_pos (Pt hc)];exact ⟨rfl,trivial,trivial⟩
 ·have hz:(aX a keep pinned).2=0:=by simpa using Pu hc
  rw [if_neg (by omega)];exact ⟨qM hz,rfl,hz.symm,trivial⟩
theorem IR:Ih.ok Tryz.prog 254:=aA (ann:=cn) (ac CO (ac GV ap)) Tryz.func254 (by kernel_rfl) Ej
def gE (pinned keep long:List Int):Nat->List dp
 | 0=>[]
 | i+1=>gE pinned keep long i++(if bt pinned keep long i<fN pinned keep long i then [(bt pinned keep long i,fN pinned keep long i - bt pinned keep long i)] else [])
theorem iK (pinned keep long:List Int):∀ i,(gE pinned keep long i).length<=i
 | 0=>by simp [gE]
 | i+1=>by
  have:=iK pinned keep long i;simp only [gE,PC];split <;> simp <;> omega
def co (n:Int) (keep long pinned:List Int):List dp:=gE pinned keep long keep.length++(if bt pinned keep long keep.length<n then [(bt pinned keep long keep.length,n - bt pinned keep long keep.length)] else [])
def gQ (a keep pinned:List Int):List dp×Int:=(if (aX a keep pinned).2≠0 then [] else co a.length keep (aX a keep pinned).1 pinned,(aX a keep pinned).2)
def DP:Nat->Option LoopGen
 | 3000272=>some cU
 | 8=>some { rd:=[.own 8 3 ty_I,.own 29 3 ty_I,.dat 1 (.arr ty_I),.dat 2 (.arr ty_I)],A:=fun ((long,to,keep,pinned):List Int×List Int×List Int×List Int)=>{ cs:=[.boxS 10 [.own 105 jH],.box 11 ty_I,.dat 31 ty_I],inv:=fun ((out,e,i):List dp×Int×Int)=>0<=i/\i<=keep.length/\to=aG keep long pinned/\out=gE pinned keep long i.toNat/\e=bt pinned keep long i.toNat,mu:=fun ((_,_,i):List dp×Int×Int)=>(keep.length - i).toNat } }
 | _=>none
def BD:Spec:={ Ts:=[.arr bo,.arr ty_I,.arr ty_I],Rs:=[.own 105 jH,.dat ty_I],pre:=fun _=>True,F:=fun ((a,keep,pinned):List Int×List Int×List Int)=>gQ a keep pinned }
def rG:Prop :=
  ∀ (x:List Int×List Int×List Int),(fun (v1:type_of% (gQ x.1 x.2.1 x.2.2))=>(fun (v0:type_of% (aX x.1 x.2.1 x.2.2))=>((x.1.length * 8<=aF/\∀ (x_1:Int),x_1∈x.1->am .u64 x_1)/\(x.2.1.length * 8<=aF/\∀ (x_1:Int),x_1∈x.2.1->am .i64 x_1)/\x.2.2.length * 8<=aF/\∀ (x_1:Int),x_1∈x.2.2->am .i64 x_1)->True->True/\(decide (v0.2≠0)=true->([]:List (Int×Int))=v1.1/\v0.2=v1.2/\True)/\(decide (v0.2≠0)=false->jq x.2.1 v0.1/\((0:Int)<=0/\0<=(x.2.1.length:Int)/\aG x.2.1 v0.1 x.2.2=aG x.2.1 v0.1 x.2.2/\([]:List (Int×Int))=gE x.2.2 x.2.1 v0.1 (Int.toNat 0)/\0=bt x.2.2 x.2.1 v0.1 (Int.toNat 0))/\∀ (x_1:List (Int×Int)×Int×Int),0<=x_1.2.2/\x_1.2.2<=(x.2.1.length:Int)/\aG x.2.1 v0.1 x.2.2=aG x.2.1 v0.1 x.2.2/\x_1.1=gE x.2.2 x.2.1 v0.1 x_1.2.2.toNat/\x_1.2.1=bt x.2.2 x.2.1 v0.1 x_1.2.2.toNat->(decide (x_1.2.2<(↑(aG x.2.1 v0.1 x.2.2).length:Int))=true->0<=x_1.2.2/\x_1.2.2<(↑(aG x.2.1 v0.1 x.2.2).length:Int)/\x_1.2.2.toNat<(aG x.2.1 v0.1 x.2.2).length/\∀ (_:Array Value),(decide (x_1.2.1<(aG x.2.1 v0.1 x.2.2).getD x_1.2.2.toNat 0)=true->am .i64 ((aG x.2.1 v0.1 x.2.2).getD x_1.2.2.toNat 0 - x_1.2.1)/\(x_1.1.length+[(x_1.2.1,(aG x.2.1 v0.1 x.2.2).getD x_1.2.2.toNat 0 - x_1.2.1)].length) * (8+8)<=aF/\0<=x_1.2.2/\x_1.2.2<(v0.1.length:Int)/\x_1.2.2.toNat<v0.1.length/\am .i64 ((aG x.2.1 v0.1 x.2.2).getD x_1.2.2.toNat 0+v0.1.getD x_1.2.2.toNat 0)/\am .i64 (x_1.2.2+1)/\(0<=x_1.2.2+1/\x_1.2.2+1<=(x.2.1.length:Int)/\aG x.2.1 v0.1 x.2.2=aG x.2.1 v0.1 x.2.2/\x_1.1++[(x_1.2.1,(aG x.2.1 v0.1 x.2.2).getD x_1.2.2.toNat 0 - x_1.2.1)]=gE x.2.2 x.2.1 v0.1 (x_1.2.2+1).toNat/\(aG x.2.1 v0.1 x.2.2).getD x_1.2.2.toNat 0+v0.1.getD x_1.2.2.toNat 0=bt x.2.2 x.2.1 v0.1 (x_1.2.2+1).toNat)/\((x.2.1.length:Int) - (x_1.2.2+1)).toNat<((x.2.1.length:Int) - x_1.2.2).toNat)/\(decide (x_1.2.1<(aG x.2.1 v0.1 x.2.2).getD x_1.2.2.toNat 0)=false->0<=x_1.2.2/\x_1.2.2<(v0.1.length:Int)/\x_1.2.2.toNat<v0.1.length/\am .i64 ((aG x.2.1 v0.1 x.2.2).getD x_1.2.2.toNat 0+v0.1.getD x_1.2.2.toNat 0)/\am .i64 (x_1.2.2+1)/\(0<=x_1.2.2+1/\x_1.2.2+1<=(x.2.1.length:Int)/\aG x.2.1 v0.1 x.2.2=aG x.2.1 v0.1 x.2.2/\x_1.1=gE x.2.2 x.2.1 v0.1 (x_1.2.2+1).toNat/\(aG x.2.1 v0.1 x.2.2).getD x_1.2.2.toNat 0+v0.1.getD x_1.2.2.toNat 0=bt x.2.2 x.2.1 v0.1 (x_1.2.2+1).toNat)/\((x.2.1.length:Int) - (x_1.2.2+1)).toNat<((x.2.1.length:Int) - x_1.2.2).toNat))/\(decide (x_1.2.2<(↑(aG x.2.1 v0.1 x.2.2).length:Int))=false->∀ (_:Array Value),(decide (x_1.2.1<(x.1.length:Int))=true->am .i64 ((x.1.length:Int) - x_1.2.1)/\(x_1.1.length+[(x_1.2.1,(x.1.length:Int) - x_1.2.1)].length) * (8+8)<=aF/\x_1.1++[(x_1.2.1,(x.1.length:Int) - x_1.2.1)]=v1.1/\0=v1.2/\True)/\(decide (x_1.2.1<(x.1.length:Int))=false->x_1.1=v1.1/\0=v1.2/\True)))) (aX x.1 x.2.1 x.2.2)) (gQ x.1 x.2.1 x.2.2)
theorem yJ:rG:=by
 unfold rG;intro ⟨a,keep,pinned⟩ ⟨⟨ha,_⟩,_⟩ _;unfold aF at ha;simp only at ha |-;have hF:gQ a keep pinned=(if (aX a keep pinned).2≠0 then [] else co a.length keep (aX a keep pinned).1 pinned,(aX a keep pinned).2):=rfl;rw [hF];refine ⟨trivial,fun hc=>?_,fun hc=>?_⟩
 ·rw [if_pos (Pt hc)];exact ⟨rfl,rfl,trivial⟩
 have hz:(aX a keep pinned).2=0:=by simpa using Pu hc
 have hp:=qM hz;rw [if_neg (by omega),hz];generalize (aX a keep pinned).1=long at *;have hlen:(aG keep long pinned).length=keep.length:=by simp [aG]
 have hp':=hp;obtain ⟨p1,p2,p3,p4⟩:=hp';rw [hlen];refine ⟨hp,⟨by omega,by omega,trivial,rfl,rfl⟩,fun ⟨out,e,i⟩ ⟨h0,h1,_,h2,h3⟩=>⟨fun hlt=>?_,fun hge=>?_⟩⟩
 ·have hlt':i<(keep.length:Int):=Pt hlt;simp only at h0 h1 h2 h3 |-;have ht:=qx pinned hp (i:=i.toNat) (by omega);have he:=cO pinned hp i.toNat (by omega);have he':=cO pinned hp (i.toNat+1) (by omega);have hE':bt pinned keep long (i.toNat+1)=fN pinned keep long i.toNat+long.getD i.toNat 0:=rfl
  have hg:(aG keep long pinned).getD i.toNat 0=fN pinned keep long i.toNat:=by
   unfold aG;rw [List.getD_eq_getElem?_getD,List.getElem?_map,List.getElem?_range (by omega)];rfl
  have hl:=iK pinned keep long i.toNat;rw [<- h2] at hl;have hs:(i+1).toNat=i.toNat+1:=by omega
  have hG:gE pinned keep long (i.toNat+1)=out++(if bt pinned keep long i.toNat<fN pinned keep long i.toNat then [(bt pinned keep long i.toNat,fN pinned keep long i.toNat - bt pinned keep long i.toNat)] else []):=by
   rw [h2];rfl
  rw [hg,hs,hG,hE',<- h3];rw [hE'] at he';rw [<- h3] at he;unfold aF;simp only [am,Pz,P4];refine ⟨h0,hlt',by omega,fun _=>⟨fun hc=>?_,fun hc=>?_⟩⟩
  ·rw [if_pos (Pt hc)];exact ⟨by omega,by omega,h0,by omega,by omega,by omega,by omega,⟨by omega,by omega,trivial,rfl,trivial⟩,by omega⟩
  ·rw [if_neg (Pu hc),Qi];exact ⟨h0,by omega,by omega,by omega,by omega,⟨by omega,by omega,trivial,rfl,trivial⟩,by omega⟩
 ·have hge:¬ i<(keep.length:Int):=Pu hge;simp only at h0 h1 h2 h3 |-;have hi:i.toNat=keep.length:=by omega
  rw [hi] at h2 h3;have he:=cO pinned hp keep.length (by omega);have hl:=iK pinned keep long keep.length
  have hP:co a.length keep long pinned=out++(if bt pinned keep long keep.length<a.length then [(bt pinned keep long keep.length,a.length - bt pinned keep long keep.length)] else []):=by
   rw [h2];rfl
  rw [<- h2] at hl;rw [hP,<- h3];rw [<- h3] at he;unfold aF;simp only [am,Pz,P4];refine fun _=>⟨fun hc=>?_,fun hc=>?_⟩
  ·rw [if_pos (Pt hc)];exact ⟨by omega,by omega,rfl,trivial,trivial⟩
  ·rw [if_neg (Pu hc),Qi];exact ⟨rfl,trivial,trivial⟩
theorem CM:BD.ok Tryz.prog 255:=aA (ann:=DP) (ac CO (ac GV ap)) Tryz.func255 (by kernel_rfl) yJ
theorem Jh (a:List Int) (at_:Int):af (cM at_ (aa a).1).1=0:=by
 rcases iB at_ (aa a).1 with e | ⟨s,h1,_,_,e⟩
 ·rw [e]; rfl
 ·rw [e]; exact (eY a s h1).2.2
theorem OU (a:List Int) (at_:Int):1<=ef (aa a).1 at_/\ef (aa a).1 at_<=256:=by
 have:=bG (Jh a at_);unfold ef ae;omega
end
section
theorem nX:∀ {l:List ax} {s e:Int},gv s e l->∀ x∈l,s<=x.1/\1<=ae x.2
 | [],_,_,_,x,h=>by cases h
 | y::l,s,e,⟨h1,h2,h3⟩,x,h=>by
  rcases PD.1 h with rfl | h
  ·omega
  ·have:=nX h3 x h;omega
theorem tx:∀ {l:List ax} {s e:Int},gv s e l->∀ x∈l,∀ y∈l,x.1<y.1->x.1+ae x.2<=y.1
 | [],_,_,_,x,h,_,_,_=>by cases h
 | z::l,s,e,⟨h1,h2,h3⟩,x,hx,y,hy,hlt=>by
  rcases PD.1 hx with hx1 | hx1 <;> rcases PD.1 hy with hy1 | hy1
  ·subst hx1; subst hy1; omega
  ·have:=nX h3 y hy1;subst hx1; omega
  ·have:=nX h3 x hx1;subst hy1; omega
  ·exact tx h3 x hx1 y hy1 hlt
theorem Kd {pinned keep long:List Int} {i:Nat} (hle:bt pinned keep long i<=keep.getD i 0):bt pinned keep long i<=fN pinned keep long i/\fN pinned keep long i<=keep.getD i 0:=by
 unfold fN;split <;> omega
theorem He {pinned keep long:List Int} {N:Int} (hp:jq keep long) (hd:∀ i:Nat,i+1<keep.length->keep.getD i 0+long.getD i 0<=keep.getD (i+1) 0) (hN:∀ i:Nat,i<keep.length->keep.getD i 0+long.getD i 0<=N) :
  ∀ i:Nat,i<keep.length->bt pinned keep long i<=keep.getD i 0
 | 0,hi=>by
  have:=hp.2.2.1 _ (aH (0:Int) (xs:=keep) (i:=(0:Nat)) (by omega) (by omega));simp only [QC] at this;simp only [bt];omega
 | i+1,hi=>by
  have ih:=He (pinned:=pinned) hp hd hN i (by omega);have h1:=Kd ih;have h2:=hd i hi;have e:bt pinned keep long (i+1)=fN pinned keep long i+long.getD i 0:=rfl;rw [e];omega
theorem Jc {a keep pinned:List Int} (h:(aX a keep pinned).2=0):(∀ i:Nat,i+1<keep.length->keep.getD i 0+(keep.map (ef (aa a).1)).getD i 0<=keep.getD (i+1) 0)/\∀ i:Nat,i<keep.length->keep.getD i 0+(keep.map (ef (aa a).1)).getD i 0<=(a.length:Int):=by
 obtain ⟨h1,h2,_,h4,_,_⟩:=uE h
 have hG:∀ k:Nat,k<keep.length->(keep.map (ef (aa a).1)).getD k 0=ef (aa a).1 (keep.getD k 0):=by
  intro k hk;rw [List.getD_eq_getElem?_getD,List.getElem?_map,List.getD_eq_getElem?_getD,List.getElem?_eq_getElem hk];rfl
 obtain ⟨_,_,hs3,hs4,_,_,_⟩:=bJ h1;have ht:=jl hs4
 have hm:∀ i:Nat,i<keep.length->keep.getD i 0∈keep:=fun i hi=>by
  have:=aH (0:Int) (xs:=keep) (i:=i) (by omega) (by omega);simpa only [QC] using this
 refine ⟨fun i hi=>?_,fun i hi=>?_⟩
 ·rw [hG i (by omega)];obtain ⟨s,s1,s2,_,s4⟩:=uQ (h4 _ (hm i (by omega)));obtain ⟨t,t1,t2,_,_⟩:=uQ (h4 _ (hm (i+1) hi))
  have hlt:keep.getD i 0<keep.getD (i+1) 0:=by
   have hp:=Rm.1 (dX h2) i (i+1) (by omega) hi (by omega);rw [List.getD_eq_getElem?_getD,List.getElem?_eq_getElem (by omega),List.getD_eq_getElem?_getD,List.getElem?_eq_getElem hi];exact hp
  rw [s4,<- s2,<- t2];exact tx ht s s1 t t1 (by omega)
 ·rw [hG i hi];obtain ⟨s,s1,s2,_,s4⟩:=uQ (h4 _ (hm i hi));obtain ⟨_,hin,hh⟩:=eY a s s1;have hz:=bG hh;rw [s4,<- s2];unfold dm at hin;unfold ae;omega
end
section
theorem Bt (at_:Int) (l:List Int) (r:List ax) (h:spotsS at_ l=some r):∀ s∈r,at_<=s.1/\s.2=ba (l.getD (s.1 - at_).toNat 0)/\bh (l.getD (s.1 - at_).toNat 0)=true:=by
 induction at_,l using spotsS.induct generalizing r with
 | case1 at_ =>
  simp only [spotsS,Ps] at h;subst h;simp
 | case2 at_ v l hv ih =>
  rw [d6 hv.1 hv.2] at h;obtain ⟨r',hr,rfl⟩:=Py.1 h;have hl:=fH hv.1;intro s hs;rcases PD.1 hs with rfl | hs
  ·simp only [Int.sub_self];exact ⟨RQ _,rfl,hv.1⟩
  ·obtain ⟨h1,h2,h3⟩:=ih r' hr s hs
   have e:((v::l).drop (ae (ba v)).toNat).getD (s.1 - (at_+ae (ba v))).toNat 0=(v::l).getD (s.1 - at_).toNat 0:=by
    rw [List.getD_eq_getElem?_getD,List.getElem?_drop,List.getD_eq_getElem?_getD];congr 2;omega
   rw [e] at h2 h3;exact ⟨by omega,h2,h3⟩
 | case3 at_ v l hv =>
  rw [gM hv] at h;cases h
theorem rr {a:List Int}:∀ s∈(aa a).1,s.2=ba (a.getD s.1.toNat 0)/\bh (a.getD s.1.toNat 0)=true:=by
 unfold aa;split
 ·intro s hs; cases hs
 ·cases h:spotsS 0 a with
  | none=>intro s hs; cases hs
  | some l =>
   intro s hs;have:=Bt 0 a l h s hs;rw [Sb] at this;exact this.2
def eN (a:List Int) (at_:Int):ew:=(cM at_ (aa a).1).1
def aY (a:List Int) (at_:Int):List Int:=bc a (at_,eN a at_)
def iq (a:List Int) (at_:Int):List Int:=jJ a (at_,eN a at_)
theorem fU {a:List Int} {at_:Int} (h:isB (aa a).1 at_=true):(at_,eN a at_)∈(aa a).1/\dm a (at_,eN a at_)/\af (eN a at_)=0/\eN a at_=ba (a.getD at_.toNat 0)/\bh (a.getD at_.toNat 0)=true/\(eN a at_).2.2.2=false:=by
 unfold isB eN at *;rcases iB at_ (aa a).1 with e | ⟨s,h1,h2,h3,e⟩
 ·rw [e] at h; cases h
 ·rw [e];have e2:(at_,s.2)=s:=by rw [<- h2]
  rw [e2];obtain ⟨_,k2,k3⟩:=eY a s h1;obtain ⟨k4,k5⟩:=rr s h1;rw [h2] at k4 k5;exact ⟨h1,k2,k3,k4,k5,h3⟩
theorem bS {a:List Int} {at_:Int} (h:isB (aa a).1 at_=true):((aY a at_).length:Int)=(eN a at_).1/\((iq a at_).length:Int)=(eN a at_).2.1/\0<=at_/\at_+1+(eN a at_).1+(eN a at_).2.1<=a.length/\0<=(eN a at_).1/\0<=(eN a at_).2.1:=by
 obtain ⟨_,k2,_⟩:=fU h;unfold dm at k2;simp only at k2;refine ⟨?_,?_,by omega,by omega,by omega,by omega⟩
 ·unfold aY bc;rw [PW,PM];simp only;omega
 ·unfold iq jJ;rw [PW,PM];simp only;omega
theorem FD {a:List Int} {at_:Int} (h:isB (aa a).1 at_=true):(a.drop at_.toNat).take (1+(eN a at_).1+(eN a at_).2.1).toNat=a.getD at_.toNat 0::(aY a at_++iq a at_):=by
 obtain ⟨l1,l2,l3,l4,l5,l6⟩:=bS h;unfold aY iq bc jJ;simp only;rw [bg (0:Int) l3 (by omega),show (1+(eN a at_).1+(eN a at_).2.1).toNat=((eN a at_).1+(eN a at_).2.1).toNat+1 by omega,QV];congr 1;generalize (eN a at_).1=r at *;generalize (eN a at_).2.1=b at *
 rw [List.drop_take,List.drop_take,show (r+b).toNat=r.toNat+b.toNat by omega,show (at_+1+r).toNat - (at_+1).toNat=r.toNat by omega,show (at_+1+r+b).toNat - (at_+1+r).toNat=b.toNat by omega,
  List.take_add,QZ,show (at_+1).toNat+r.toNat=(at_+1+r).toNat by omega]
def lZ (keep to:List Int) (v:Int):Option Int:=if v=0 then some 0 else if cu keep (v - 1)=true then some (to.getD (dq keep (v - 1)).toNat 0+1) else none
def ll (keep to:List Int) (v:Int):Int:=(lZ keep to v).getD 0
def fl (keep to l:List Int):Bool:=l.all fun v=>(lZ keep to v).isSome
def jb (a keep to:List Int) (at_:Int):List Int:=a.getD at_.toNat 0::((aY a at_).map (ll keep to)++iq a at_)
def qT (pinned keep long:List Int) (i:Nat):List Int:=List.replicate (fN pinned keep long i - bt pinned keep long i).toNat 0
def eI (a keep to pinned long:List Int):Nat->List Int
 | 0=>[]
 | i+1=>eI a keep to pinned long i++(qT pinned keep long i++jb a keep to (keep.getD i 0))
def jv (w:List Int) (r:dp):List Int:=w.set r.1.toNat (aR (0,r.2 - 1,0,true))
def mw (a keep to pinned long:List Int) (g:List dp):List Int :=
 g.foldl jv (eI a keep to pinned long keep.length++List.replicate ((a.length:Int) - bt pinned keep long keep.length).toNat 0)
def eo (a keep pinned:List Int):List Int×List Int×Int :=
 if (aX a keep pinned).2≠0 then ([],[],(aX a keep pinned).2)
 else if (keep.all fun at_=>fl keep (aG keep (aX a keep pinned).1 pinned) (aY a at_))=true then
  (mw a keep (aG keep (aX a keep pinned).1 pinned) pinned (aX a keep pinned).1 (co a.length keep (aX a keep pinned).1 pinned),aG keep (aX a keep pinned).1 pinned,0)
 else ([],[],8)
structure Plan (a keep pinned long:List Int):Prop where
 chk:(ai a).2.2=0
 al:a.length<=256
 isb:∀ x∈keep,isB (aa a).1 x=true
 pre:jq keep long
 lg:∀ i:Nat,i<keep.length->long.getD i 0=1+(eN a (keep.getD i 0)).1+(eN a (keep.getD i 0)).2.1
 le:∀ i:Nat,i<keep.length->bt pinned keep long i<=fN pinned keep long i/\fN pinned keep long i+long.getD i 0<=(a.length:Int)
 en:bt pinned keep long keep.length<=(a.length:Int)
 rs:keep.Pairwise (·<·)
theorem GQ {a keep pinned:List Int} (h:(aX a keep pinned).2=0):Plan a keep pinned (aX a keep pinned).1:=by
 obtain ⟨k1,k2,_,k4,_,k6⟩:=uE h;obtain ⟨d1,d2⟩:=Jc h;have hp:=qM h;rw [k6] at hp |-
 have hG:∀ k:Nat,k<keep.length->(keep.map (ef (aa a).1)).getD k 0=ef (aa a).1 (keep.getD k 0):=by
  intro k hk;rw [List.getD_eq_getElem?_getD,List.getElem?_map,List.getD_eq_getElem?_getD,List.getElem?_eq_getElem hk];rfl
 have hle:=He (pinned:=pinned) hp d1 d2
 have hto:∀ i:Nat,i<keep.length->bt pinned keep (keep.map (ef (aa a).1)) i<=fN pinned keep (keep.map (ef (aa a).1)) i/\fN pinned keep (keep.map (ef (aa a).1)) i+(keep.map (ef (aa a).1)).getD i 0<=(a.length:Int):=fun i hi=>by
  have h1:=Kd (hle i hi);have h2:=d2 i hi;omega
 refine ⟨k1,(bJ k1).1,k4,hp,fun i hi=>by rw [hG i hi]; rfl,hto,?_,dX k2⟩;cases hn:keep.length with
 | zero=>simp [bt]
 | succ n =>
  have:=hto n (by omega);show fN pinned keep (keep.map (ef (aa a).1)) n+(keep.map (ef (aa a).1)).getD n 0<=_;exact this.2
theorem kL {a keep to:List Int} {at_:Int} (h:isB (aa a).1 at_=true):((jb a keep to at_).length:Int)=1+(eN a at_).1+(eN a at_).2.1:=by
 obtain ⟨l1,l2,_⟩:=bS h;unfold jb;simp only [Pz,PC,Qc];omega
theorem gn {keep:List Int} {i:Nat} (h:i<keep.length):keep.getD i 0∈keep:=by
 have:=aH (0:Int) (xs:=keep) (i:=i) (by omega) (by omega);simpa only [QC] using this
theorem kJ {a keep pinned long:List Int} (to:List Int) (hP:Plan a keep pinned long):∀ i:Nat,i<=keep.length->((eI a keep to pinned long i).length:Int)=bt pinned keep long i
 | 0,_=>rfl
 | i+1,hi=>by
  have ih:=kJ to hP i (by omega);have h1:=kL (keep:=keep) (to:=to) (hP.isb _ (gn (i:=i) (by omega)));have h2:=hP.le i (by omega);have h3:=hP.lg i (by omega);have hE:bt pinned keep long (i+1)=fN pinned keep long i+long.getD i 0:=rfl;simp only [eI,PC,qT,Qd];omega
def pz (keep to:List Int):Nat->List (Int×Int)
 | 0=>[(0,0)]
 | i+1=>cR (pz keep to i) (keep.getD i 0+1) (to.getD i 0+1)
theorem nN {α:Type} (f:α->Bool) (x:α):∀ (l:List α) (k:Int),ah f k (l++[x])=if l.any f=true then ah f k l else if f x=true then k+l.length else -1
 | [],k=>by simp [ah]
 | y::l,k=>by
  have ih:=nN f x l (k+1);simp only [Qs,ah,Q4,ih];by_cases hy:f y=true
  ·simp [hy]
  ·have hy:f y=false:=by simpa using hy
   simp only [hy,PG,P5,Re,Pz];split
   ·rfl
   ·split
    ·omega
    ·rfl
theorem x4 {keep to:List Int} (hk:keep.Pairwise (·<·)) (h0:∀ x∈keep,0<=x) (v:Int):∀ i:Nat,i<=keep.length->aC (pz keep to i) v=if v=0 then some 0 else if cu (keep.take i) (v - 1)=true then some (to.getD (dq (keep.take i) (v - 1)).toNat 0+1) else none
 | 0,_=>by
  simp only [pz,aC,Q5,cu,List.any_nil,PG,P5];by_cases hv:v=0
  ·simp [hv]
  ·simp [hv,Ne.symm hv]
 | i+1,hi=>by
  have ih:=x4 (to:=to) hk h0 v i (by omega);have hx:=h0 _ (gn (i:=i) (by omega))
  have ht:keep.take (i+1)=keep.take i++[keep.getD i 0]:=by
   rw [Qh (by omega)];congr 2;rw [List.getD_eq_getElem?_getD,List.getElem?_eq_getElem (by omega)];rfl
  have hnot:cu (keep.take i) (keep.getD i 0)=false:=by
   unfold cu;rw [RW];intro y hy;obtain ⟨j,hj,rfl⟩:=R4.1 hy;rw [PM] at hj;have:=Rm.1 hk j i (by omega) (by omega) (by omega);rw [List.getElem_take];simp only [Qk];rw [List.getD_eq_getElem?_getD,List.getElem?_eq_getElem (by omega)];simp only [Rg];omega
  simp only [pz];rw [eL,ih,ht];unfold dq cu;rw [nN,List.any_append];simp only [Q4,List.any_nil,Q0,PM];by_cases hv:v=keep.getD i 0+1
  ·rw [if_pos hv,if_neg (by omega)];have e:v - 1=keep.getD i 0:=by omega
   rw [e];unfold cu at hnot;rw [hnot];simp only [decide_true,Bool.or_true,if_true,PG,P5];rw [show (0+((min i keep.length:Nat):Int)).toNat=i by omega]
  ·rw [if_neg hv];have e:decide (keep.getD i 0=v - 1)=false:=QI (by omega);rw [e,Q0];split
   ·rfl
   ·split
    ·rfl
    ·rfl
theorem Lb {keep to:List Int} (hk:keep.Pairwise (·<·)) (h0:∀ x∈keep,0<=x) (v:Int):aC (pz keep to keep.length) v=lZ keep to v:=by
 rw [x4 hk h0 v keep.length (PP _),List.take_length];rfl
theorem ru:∀ {l:List ax} {s t:ax},l.Pairwise (fun s t=>s.1<t.1)->s∈l->t∈l->s.1=t.1->s=t
 | x::l,s,t,h,hs,ht,e=>by
  obtain ⟨h1,h2⟩:=Qe.1 h;rcases PD.1 hs with hs | hs <;> rcases PD.1 ht with ht | ht
  ·rw [hs,ht]
  ·have:=h1 t ht; subst hs; omega
  ·have:=h1 s hs; subst ht; omega
  ·exact ru h2 hs ht e
theorem Hq {a:List Int} {at_:Int} (hc:(ai a).2.2=0) (h:isB (aa a).1 at_=true):(gZ a at_).1.2.1.length=(aY a at_).length/\(gZ a at_).1.2.2.1.length=(iq a at_).length:=by
 obtain ⟨k1,_⟩:=fU h;obtain ⟨_,_,e3,_⟩:=bJ hc;have hany:((aa a).1.any fun s:ax=>decide (s.1=at_))=true:=Qt.2 ⟨_,k1,by simp⟩;have hpos:=ei (fun s:ax=>decide (s.1=at_)) (aa a).1 0 (by omega);rw [hany] at hpos;have hpos:=Pt hpos;have hlt:=eh (fun s:ax=>decide (s.1=at_)) (0,0,0,0,false) (aa a).1 0 (by omega);have his:=gX (fun s:ax=>decide (s.1=at_)) (0,0,0,0,false) (aa a).1 0 hpos (by omega);rw [Sb] at his;have hm:=aH ((0,0,0,0,false):ax) (xs:=(aa a).1) hpos (by omega);have e:=ru (bz a) hm k1 (Pt his);unfold gZ;rw [if_neg (by omega),e3,if_neg (by omega),e];unfold gy aY iq;exact ⟨by rw [Qc],rfl⟩
theorem sY {A B:List Int} {x:Int} (y:Int) {n:Nat} (h:n=A.length):(A++x::B).set n y=A++y::B:=by
 rw [h,Rl _ _ (PP _)];simp
theorem Nj {A B:List Int} {x:Int} {n:Nat} (h:n=A.length):(A++x::B).getD n 0=x:=by
 rw [h,List.getD_eq_getElem?_getD,List.getElem?_append_right (PP _)];simp
theorem yk {a keep pinned long:List Int} (hP:Plan a keep pinned long):∀ i:Nat,i<=keep.length->∀ r∈gE pinned keep long i,0<=r.1/\1<=r.2/\r.1+r.2<=(a.length:Int)
 | 0,_,r,hr=>by cases hr
 | i+1,hi,r,hr=>by
  simp only [gE] at hr;rcases PI.1 hr with hr | hr
  ·exact yk hP i (by omega) r hr
  ·have h1:=hP.le i (by omega);have h2:=hP.lg i (by omega);have h3:=cO pinned hP.pre i (by omega);obtain ⟨_,_,_,l4,l5,l6⟩:=bS (hP.isb _ (gn (i:=i) (by omega)));split at hr
   ·simp only [PB] at hr;subst hr;simp only;omega
   ·cases hr
theorem CF {a keep pinned long:List Int} (hP:Plan a keep pinned long):∀ r∈co a.length keep long pinned,0<=r.1/\1<=r.2/\r.1+r.2<=(a.length:Int):=by
 intro r hr;unfold co at hr;rcases PI.1 hr with hr | hr
 ·exact yk hP _ (PP _) r hr
 ·have h3:=cO pinned hP.pre keep.length (PP _);split at hr
  ·simp only [PB] at hr;subst hr;simp only;omega
  ·cases hr
theorem sG (n:Int) (keep long pinned:List Int):(co n keep long pinned).length<=keep.length+1:=by
 have:=iK pinned keep long keep.length;unfold co;rw [PC];split <;> simp <;> omega
def Mj:Nat->Option LoopGen
 | 6=>some { rd:=[.dat 39 (.arr ty_I),.own 9 3 ty_I],A:=fun ((keep,to):List Int×List Int)=>{ cs:=[.map 37 .u64 bo,.dat 41 ty_I],inv:=fun ((m,i):List (Int×Int)×Int)=>0<=i/\i<=keep.length/\m=pz keep to i.toNat,mu:=fun ((_,i):List (Int×Int)×Int)=>(keep.length - i).toNat } }
 | 12=>some { rd:=[.dat 60 (.arr ty_I),.own 9 3 ty_I,.dat 0 (.arr bo),.dat 2 (.arr ty_I)],wr:=[14],A:=fun ((keep,to,a,pinned):List Int×List Int×List Int×List Int)=>{ cs:=[.own 14 45 bo,.dat 62 ty_I],inv:=fun ((w,i):List Int×Int)=>0<=i/\i<=keep.length/\((keep.drop i.toNat).all fun at_=>fl keep to (aY a at_))=(keep.all fun at_=>fl keep to (aY a at_))/\w=eI a keep to pinned (aX a keep pinned).1 i.toNat++List.replicate ((a.length:Int) - bt pinned keep (aX a keep pinned).1 i.toNat).toNat 0,mu:=fun ((_,i):List Int×Int)=>(keep.length - i).toNat } }
 | 18=>some { rd:=[.dat 60 (.arr ty_I),.own 9 3 ty_I,.dat 0 (.arr bo),.dat 2 (.arr ty_I),.dat 15 ty_I,.dat 99 ty_I],wr:=[14,19],A:=fun ((keep,to,a,pinned,i,n):List Int×List Int×List Int×List Int×Int×Int)=>{ cs:=[.own 14 45 bo,.part 19 14 bo,.dat 100 ty_I],inv:=fun ((w,pt,k):List Int×(Nat×Nat)×Int)=>0<=k/\k<=n/\pt.1=(fN pinned keep (aX a keep pinned).1 i.toNat).toNat/\(pt.2:Int)=(aX a keep pinned).1.getD i.toNat 0/\fl keep to ((aY a (keep.getD i.toNat 0)).drop k.toNat)=fl keep to (aY a (keep.getD i.toNat 0)) /\
   w=(eI a keep to pinned (aX a keep pinned).1 i.toNat++(qT pinned keep (aX a keep pinned).1 i.toNat++a.getD (keep.getD i.toNat 0).toNat 0::((aY a (keep.getD i.toNat 0)).take k.toNat).map (ll keep to)))++((aY a (keep.getD i.toNat 0)).drop k.toNat++(iq a (keep.getD i.toNat 0)++List.replicate ((a.length:Int) - bt pinned keep (aX a keep pinned).1 (i.toNat+1)).toNat 0)),mu:=fun ((_,_,k):List Int×(Nat×Nat)×Int)=>(n - k).toNat } }
 | 28=>some { rd:=[.own 129 105 jH,.own 14 45 bo],wr:=[14],A:=fun ((g,w0):List dp×List Int)=>{ cs:=[.own 14 45 bo,.dat 131 ty_I],inv:=fun ((w,i):List Int×Int)=>0<=i/\i<=g.length/\w.length=w0.length/\w=(g.take i.toNat).foldl jv w0,mu:=fun ((_,i):List Int×Int)=>(g.length - i).toNat } }
 | _=>none
def Kp:Spec:={ Ts:=[.arr bo,.arr ty_I,.arr ty_I],Rs:=[.own 45 bo,.own 3 ty_I,.dat ty_I],pre:=fun _=>True,F:=fun ((a,keep,pinned):List Int×List Int×List Int)=>eo a keep pinned }
def Co:Prop :=
  ∀ (x:List Int×List Int×List Int),(fun (v4:type_of% (eo x.1 x.2.1 x.2.2))=>(fun (v2:type_of% (gQ x.1 x.2.1 x.2.2))=>(fun (v0:type_of% (aX x.1 x.2.1 x.2.2))=>((x.1.length * 8<=aF/\∀ (x_1:Int),x_1∈x.1->am .u64 x_1)/\(x.2.1.length * 8<=aF/\∀ (x_1:Int),x_1∈x.2.1->am .i64 x_1)/\x.2.2.length * 8<=aF/\∀ (x_1:Int),x_1∈x.2.2->am .i64 x_1)->True->True/\(decide (v0.2≠0)=true->([]:List Int)=v4.1/\([]:List Int)=v4.2.1/\v0.2=v4.2.2/\True)/\(decide (v0.2≠0)=false->((0:Int)<=0/\0<=(x.2.1.length:Int)/\cR ([]:List (Int×Int)) 0 0=pz x.2.1 (if v0.2≠0 then ([]:List Int) else aG x.2.1 v0.1 x.2.2) (Int.toNat 0))/\∀ (x_1:List (Int×Int)×Int),0<=x_1.2/\x_1.2<=(x.2.1.length:Int)/\x_1.1=pz x.2.1 (if v0.2≠0 then ([]:List Int) else aG x.2.1 v0.1 x.2.2) x_1.2.toNat->(decide (x_1.2<(x.2.1.length:Int))=true->0<=x_1.2/\x_1.2<(x.2.1.length:Int)/\am .u64 (IntKind.u64.wrap (x.2.1.getD x_1.2.toNat 0)+1)/\0<=x_1.2/\x_1.2<(↑(if v0.2≠0 then ([]:List Int) else aG x.2.1 v0.1 x.2.2).length:Int)/\x_1.2.toNat<(if v0.2≠0 then ([]:List Int) else aG x.2.1 v0.1 x.2.2).length/\am .u64 (IntKind.u64.wrap ((if v0.2≠0 then ([]:List Int) else aG x.2.1 v0.1 x.2.2).getD x_1.2.toNat 0)+1)/\am .i64 (x_1.2+1)/\(0<=x_1.2+1/\x_1.2+1<=(x.2.1.length:Int)/\cR x_1.1 (IntKind.u64.wrap (x.2.1.getD x_1.2.toNat 0)+1) (IntKind.u64.wrap ((if v0.2≠0 then ([]:List Int) else aG x.2.1 v0.1 x.2.2).getD x_1.2.toNat 0)+1)=pz x.2.1 (if v0.2≠0 then ([]:List Int) else aG x.2.1 v0.1 x.2.2) (x_1.2+1).toNat)/\((x.2.1.length:Int) - (x_1.2+1)).toNat<((x.2.1.length:Int) - x_1.2).toNat)/\(decide (x_1.2<(x.2.1.length:Int))=false->0<=(x.1.length:Int)/\(x.1.length:Int).toNat * 8<=aF/\((0:Int)<=0/\0<=(x.2.1.length:Int)/\(((List.drop (Int.toNat 0) x.2.1).all fun (at_:Int)=>fl x.2.1 (if v0.2≠0 then ([]:List Int) else aG x.2.1 v0.1 x.2.2) (aY x.1 at_))=x.2.1.all fun (at_:Int)=>fl x.2.1 (if v0.2≠0 then ([]:List Int) else aG x.2.1 v0.1 x.2.2) (aY x.1 at_))/\List.replicate (x.1.length:Int).toNat (0:Int)=eI x.1 x.2.1 (if v0.2≠0 then ([]:List Int) else aG x.2.1 v0.1 x.2.2) x.2.2 v0.1 (Int.toNat 0)++List.replicate ((x.1.length:Int) - bt x.2.2 x.2.1 v0.1 (Int.toNat 0)).toNat (0:Int))/\∀ (x_2:List Int×Int),(fun (v1:type_of% (x.2.1.getD x_2.2.toNat 0))=>0<=x_2.2/\x_2.2<=(x.2.1.length:Int)/\(((List.drop x_2.2.toNat x.2.1).all fun (at_:Int)=>fl x.2.1 (if v0.2≠0 then ([]:List Int) else aG x.2.1 v0.1 x.2.2) (aY x.1 at_))=x.2.1.all fun (at_:Int)=>fl x.2.1 (if v0.2≠0 then ([]:List Int) else aG x.2.1 v0.1 x.2.2) (aY x.1 at_))/\x_2.1=eI x.1 x.2.1 (if v0.2≠0 then ([]:List Int) else aG x.2.1 v0.1 x.2.2) x.2.2 v0.1 x_2.2.toNat++List.replicate ((x.1.length:Int) - bt x.2.2 x.2.1 v0.1 x_2.2.toNat).toNat (0:Int)->(decide (x_2.2<(x.2.1.length:Int))=true->0<=x_2.2/\x_2.2<(x.2.1.length:Int)/\True/\0<=x_2.2/\x_2.2<(↑(if v0.2≠0 then ([]:List Int) else aG x.2.1 v0.1 x.2.2).length:Int)/\x_2.2.toNat<(if v0.2≠0 then ([]:List Int) else aG x.2.1 v0.1 x.2.2).length/\0<=x_2.2/\x_2.2<(↑(if v0.2≠0 then ([]:List Int) else aG x.2.1 v0.1 x.2.2).length:Int)/\x_2.2.toNat<(if v0.2≠0 then ([]:List Int) else aG x.2.1 v0.1 x.2.2).length/\am .i64 ((if v0.2≠0 then ([]:List Int) else aG x.2.1 v0.1 x.2.2).getD x_2.2.toNat 0+1)/\am .i64 ((if v0.2≠0 then ([]:List Int) else aG x.2.1 v0.1 x.2.2).getD x_2.2.toNat 0+1+(↑(gZ x.1 v1).1.2.1.length:Int))/\am .i64 ((if v0.2≠0 then ([]:List Int) else aG x.2.1 v0.1 x.2.2).getD x_2.2.toNat 0+1+(↑(gZ x.1 v1).1.2.1.length:Int)+(↑(gZ x.1 v1).1.2.2.1.length:Int))/\0<=(if v0.2≠0 then ([]:List Int) else aG x.2.1 v0.1 x.2.2).getD x_2.2.toNat 0/\(if v0.2≠0 then ([]:List Int) else aG x.2.1 v0.1 x.2.2).getD x_2.2.toNat 0<=(if v0.2≠0 then ([]:List Int) else aG x.2.1 v0.1 x.2.2).getD x_2.2.toNat 0+1+(↑(gZ x.1 v1).1.2.1.length:Int)+(↑(gZ x.1 v1).1.2.2.1.length:Int)/\(if v0.2≠0 then ([]:List Int) else aG x.2.1 v0.1 x.2.2).getD x_2.2.toNat 0+1+(↑(gZ x.1 v1).1.2.1.length:Int)+(↑(gZ x.1 v1).1.2.2.1.length:Int)<=(x_2.1.length:Int)/\0<=x.2.1.getD x_2.2.toNat 0/\x.2.1.getD x_2.2.toNat 0<=(x.1.length:Int)/\((if v0.2≠0 then ([]:List Int) else aG x.2.1 v0.1 x.2.2).getD x_2.2.toNat 0).toNat+(((if v0.2≠0 then ([]:List Int) else aG x.2.1 v0.1 x.2.2).getD x_2.2.toNat 0+1+(↑(gZ x.1 v1).1.2.1.length:Int)+(↑(gZ x.1 v1).1.2.2.1.length:Int)).toNat - ((if v0.2≠0 then ([]:List Int) else aG x.2.1 v0.1 x.2.2).getD x_2.2.toNat 0).toNat)<=x_2.1.length/\((0:Int)<=0/\0<=(↑(gZ x.1 v1).1.2.1.length:Int)/\((if v0.2≠0 then ([]:List Int) else aG x.2.1 v0.1 x.2.2).getD x_2.2.toNat 0).toNat=(fN x.2.2 x.2.1 v0.1 x_2.2.toNat).toNat/\(↑(((if v0.2≠0 then ([]:List Int) else aG x.2.1 v0.1 x.2.2).getD x_2.2.toNat 0+1+(↑(gZ x.1 v1).1.2.1.length:Int)+(↑(gZ x.1 v1).1.2.2.1.length:Int)).toNat - ((if v0.2≠0 then ([]:List Int) else aG x.2.1 v0.1 x.2.2).getD x_2.2.toNat 0).toNat):Int)=v0.1.getD x_2.2.toNat 0/\fl x.2.1 (if v0.2≠0 then ([]:List Int) else aG x.2.1 v0.1 x.2.2) (List.drop (Int.toNat 0) (aY x.1 v1))=fl x.2.1 (if v0.2≠0 then ([]:List Int) else aG x.2.1 v0.1 x.2.2) (aY x.1 v1)/\List.take ((if v0.2≠0 then ([]:List Int) else aG x.2.1 v0.1 x.2.2).getD x_2.2.toNat 0).toNat x_2.1++(List.take (min (List.drop v1.toNat x.1).length (((if v0.2≠0 then ([]:List Int) else aG x.2.1 v0.1 x.2.2).getD x_2.2.toNat 0+1+(↑(gZ x.1 v1).1.2.1.length:Int)+(↑(gZ x.1 v1).1.2.2.1.length:Int)).toNat - ((if v0.2≠0 then ([]:List Int) else aG x.2.1 v0.1 x.2.2).getD x_2.2.toNat 0).toNat)) (List.drop v1.toNat x.1)++List.drop (((if v0.2≠0 then ([]:List Int) else aG x.2.1 v0.1 x.2.2).getD x_2.2.toNat 0).toNat+min (List.drop v1.toNat x.1).length (((if v0.2≠0 then ([]:List Int) else aG x.2.1 v0.1 x.2.2).getD x_2.2.toNat 0+1+(↑(gZ x.1 v1).1.2.1.length:Int)+(↑(gZ x.1 v1).1.2.2.1.length:Int)).toNat - ((if v0.2≠0 then ([]:List Int) else aG x.2.1 v0.1 x.2.2).getD x_2.2.toNat 0).toNat)) x_2.1)=eI x.1 x.2.1 (if v0.2≠0 then ([]:List Int) else aG x.2.1 v0.1 x.2.2) x.2.2 v0.1 x_2.2.toNat++(qT x.2.2 x.2.1 v0.1 x_2.2.toNat++x.1.getD v1.toNat 0::List.map (ll x.2.1 (if v0.2≠0 then ([]:List Int) else aG x.2.1 v0.1 x.2.2)) (List.take (Int.toNat 0) (aY x.1 v1)))++(List.drop (Int.toNat 0) (aY x.1 v1)++(iq x.1 v1++List.replicate ((x.1.length:Int) - bt x.2.2 x.2.1 v0.1 (x_2.2.toNat+1)).toNat (0:Int))))/\∀ (x_3:List Int×(Nat×Nat)×Int),0<=x_3.2.2/\x_3.2.2<=(↑(gZ x.1 v1).1.2.1.length:Int)/\x_3.2.1.1=(fN x.2.2 x.2.1 v0.1 x_2.2.toNat).toNat/\(↑x_3.2.1.2:Int)=v0.1.getD x_2.2.toNat 0/\fl x.2.1 (if v0.2≠0 then ([]:List Int) else aG x.2.1 v0.1 x.2.2) (List.drop x_3.2.2.toNat (aY x.1 v1))=fl x.2.1 (if v0.2≠0 then ([]:List Int) else aG x.2.1 v0.1 x.2.2) (aY x.1 v1)/\x_3.1=eI x.1 x.2.1 (if v0.2≠0 then ([]:List Int) else aG x.2.1 v0.1 x.2.2) x.2.2 v0.1 x_2.2.toNat++(qT x.2.2 x.2.1 v0.1 x_2.2.toNat++x.1.getD v1.toNat 0::List.map (ll x.2.1 (if v0.2≠0 then ([]:List Int) else aG x.2.1 v0.1 x.2.2)) (List.take x_3.2.2.toNat (aY x.1 v1)))++(List.drop x_3.2.2.toNat (aY x.1 v1)++(iq x.1 v1++List.replicate ((x.1.length:Int) - bt x.2.2 x.2.1 v0.1 (x_2.2.toNat+1)).toNat (0:Int)))->(decide (x_3.2.2<(↑(gZ x.1 v1).1.2.1.length:Int))=true->am .i64 (1+x_3.2.2)/\(0:Int)<=1+x_3.2.2/\1+x_3.2.2<(↑x_3.2.1.2:Int)/\x_3.2.1.1+(1+x_3.2.2).toNat<x_3.1.length/\((!(aC x_1.1 (x_3.1.getD (x_3.2.1.1+(1+x_3.2.2).toNat) 0)).isSome)=true->([]:List Int)=v4.1/\([]:List Int)=v4.2.1/\8=v4.2.2/\True)/\((!(aC x_1.1 (x_3.1.getD (x_3.2.1.1+(1+x_3.2.2).toNat) 0)).isSome)=false->am .i64 (1+x_3.2.2)/\(0:Int)<=1+x_3.2.2/\1+x_3.2.2<(↑x_3.2.1.2:Int)/\x_3.2.1.1+(1+x_3.2.2).toNat<x_3.1.length/\am .i64 (x_3.2.2+1)/\(0<=x_3.2.2+1/\x_3.2.2+1<=(↑(gZ x.1 v1).1.2.1.length:Int)/\x_3.2.1.1=(fN x.2.2 x.2.1 v0.1 x_2.2.toNat).toNat/\(↑x_3.2.1.2:Int)=v0.1.getD x_2.2.toNat 0/\fl x.2.1 (if v0.2≠0 then ([]:List Int) else aG x.2.1 v0.1 x.2.2) (List.drop (x_3.2.2+1).toNat (aY x.1 v1))=fl x.2.1 (if v0.2≠0 then ([]:List Int) else aG x.2.1 v0.1 x.2.2) (aY x.1 v1)/\x_3.1.set (x_3.2.1.1+(1+x_3.2.2).toNat) ((aC x_1.1 (x_3.1.getD (x_3.2.1.1+(1+x_3.2.2).toNat) 0)).getD 0)=eI x.1 x.2.1 (if v0.2≠0 then ([]:List Int) else aG x.2.1 v0.1 x.2.2) x.2.2 v0.1 x_2.2.toNat++(qT x.2.2 x.2.1 v0.1 x_2.2.toNat++x.1.getD v1.toNat 0::List.map (ll x.2.1 (if v0.2≠0 then ([]:List Int) else aG x.2.1 v0.1 x.2.2)) (List.take (x_3.2.2+1).toNat (aY x.1 v1)))++(List.drop (x_3.2.2+1).toNat (aY x.1 v1)++(iq x.1 v1++List.replicate ((x.1.length:Int) - bt x.2.2 x.2.1 v0.1 (x_2.2.toNat+1)).toNat (0:Int))))/\((↑(gZ x.1 v1).1.2.1.length:Int) - (x_3.2.2+1)).toNat<((↑(gZ x.1 v1).1.2.1.length:Int) - x_3.2.2).toNat))/\(decide (x_3.2.2<(↑(gZ x.1 v1).1.2.1.length:Int))=false->am .i64 (x_2.2+1)/\(0<=x_2.2+1/\x_2.2+1<=(x.2.1.length:Int)/\(((List.drop (x_2.2+1).toNat x.2.1).all fun (at_:Int)=>fl x.2.1 (if v0.2≠0 then ([]:List Int) else aG x.2.1 v0.1 x.2.2) (aY x.1 at_))=x.2.1.all fun (at_:Int)=>fl x.2.1 (if v0.2≠0 then ([]:List Int) else aG x.2.1 v0.1 x.2.2) (aY x.1 at_))/\x_3.1=eI x.1 x.2.1 (if v0.2≠0 then ([]:List Int) else aG x.2.1 v0.1 x.2.2) x.2.2 v0.1 (x_2.2+1).toNat++List.replicate ((x.1.length:Int) - bt x.2.2 x.2.1 v0.1 (x_2.2+1).toNat).toNat (0:Int))/\((x.2.1.length:Int) - (x_2.2+1)).toNat<((x.2.1.length:Int) - x_2.2).toNat))/\(decide (x_2.2<(x.2.1.length:Int))=false->True/\((0:Int)<=0/\0<=(v2.1.length:Int)/\x_2.1.length=x_2.1.length/\x_2.1=List.foldl jv x_2.1 (List.take (Int.toNat 0) v2.1))/\∀ (x_3:List Int×Int),(fun (v3:type_of% (v2.1.getD x_3.2.toNat (0,0)))=>0<=x_3.2/\x_3.2<=(v2.1.length:Int)/\x_3.1.length=x_2.1.length/\x_3.1=List.foldl jv x_2.1 (List.take x_3.2.toNat v2.1)->(decide (x_3.2<(v2.1.length:Int))=true->0<=x_3.2/\x_3.2<(v2.1.length:Int)/\x_3.2.toNat<v2.1.length/\am .i64 (v3.2 - 1)/\True/\0<=v3.1/\v3.1<(x_3.1.length:Int)/\v3.1.toNat<x_3.1.length/\af (0,v3.2 - 1,0,true)=af (0,v3.2 - 1,0,true)/\am .i64 (x_3.2+1)/\(0<=x_3.2+1/\x_3.2+1<=(v2.1.length:Int)/\(x_3.1.set v3.1.toNat (if af (0,v3.2 - 1,0,true)=0 then aR (0,v3.2 - 1,0,true) else (0:Int))).length=x_2.1.length/\x_3.1.set v3.1.toNat (if af (0,v3.2 - 1,0,true)=0 then aR (0,v3.2 - 1,0,true) else (0:Int))=List.foldl jv x_2.1 (List.take (x_3.2+1).toNat v2.1))/\((v2.1.length:Int) - (x_3.2+1)).toNat<((v2.1.length:Int) - x_3.2).toNat)/\(decide (x_3.2<(v2.1.length:Int))=false->x_3.1=v4.1/\(if v0.2≠0 then ([]:List Int) else aG x.2.1 v0.1 x.2.2)=v4.2.1/\0=v4.2.2/\True)) (v2.1.getD x_3.2.toNat (0,0)))) (x.2.1.getD x_2.2.toNat 0)))) (aX x.1 x.2.1 x.2.2)) (gQ x.1 x.2.1 x.2.2)) (eo x.1 x.2.1 x.2.2)
theorem HG:Co:=by
 unfold Co;intro ⟨a,keep,pinned⟩ ⟨⟨hb,hw⟩,_⟩ _;unfold aF at hb;simp only at hb hw |-
 have hF:eo a keep pinned=if (aX a keep pinned).2≠0 then ([],[],(aX a keep pinned).2)
  else if (keep.all fun at_=>fl keep (aG keep (aX a keep pinned).1 pinned) (aY a at_))=true then
   (mw a keep (aG keep (aX a keep pinned).1 pinned) pinned (aX a keep pinned).1 (co a.length keep (aX a keep pinned).1 pinned),aG keep (aX a keep pinned).1 pinned,0)
  else ([],[],8):=rfl
 rw [hF];refine ⟨trivial,fun hc=>?_,fun hc=>?_⟩
 ·rw [if_pos (Pt hc)];exact ⟨rfl,rfl,rfl,trivial⟩
 have hz:(aX a keep pinned).2=0:=by simpa using Pu hc
 have hP:=GQ hz
 have hG:gQ a keep pinned=(co a.length keep (aX a keep pinned).1 pinned,0):=by
  unfold gQ;rw [if_neg (by omega),hz]
 rw [if_neg (by omega),if_neg (by omega),hG];clear hF hG hc hz;generalize (aX a keep pinned).1=long at *;have hto:(aG keep long pinned).length=keep.length:=by simp [aG]
 have htg:∀ i:Nat,i<keep.length->(aG keep long pinned).getD i 0=fN pinned keep long i:=by
  intro i hi;unfold aG;rw [List.getD_eq_getElem?_getD,List.getElem?_map,List.getElem?_range hi];rfl
 have hk0:∀ x∈keep,0<=x:=fun x hx=>(hP.pre.2.2.1 x hx).1
 have hkl:=hP.pre.2.1;have hlong:=hP.pre.1;have hal:=hP.al;have hgi:=CF hP;have hgl:=sG a.length keep long pinned;rw [hto];generalize aG keep long pinned=to at *;generalize co a.length keep long pinned=g at *;refine ⟨⟨by omega,by omega,rfl⟩,fun ⟨m,i⟩ ⟨h0,h1,h2⟩=>⟨fun hlt=>?_,fun hge=>?_⟩⟩
 ·have hlt':i<(keep.length:Int):=Pt hlt;simp only at h0 h1 h2 |-;have hx:=hP.pre.2.2.1 _ (aH (0:Int) h0 hlt');have ht:=qx pinned hP.pre (i:=i.toNat) (by omega);rw [<- htg i.toNat (by omega)] at ht;rw [fA (n:=keep.getD i.toNat 0) (by omega) (by omega),fA (n:=to.getD i.toNat 0) (by omega) (by omega)];simp only [am];refine ⟨h0,hlt',by omega,h0,by omega,by omega,by omega,by omega,⟨by omega,by omega,?_⟩,by omega⟩;rw [show (i+1).toNat=i.toNat+1 by omega,h2];rfl
 have hge:¬ i<(keep.length:Int):=Pu hge;simp only at h0 h1 h2 |-;rw [show i.toNat=keep.length by omega] at h2;subst h2;clear h0 h1 hge;unfold aF;refine ⟨by omega,by omega,⟨by omega,by omega,rfl,?_⟩,fun ⟨w,i⟩ ⟨b0,b1,b2,b3⟩=>⟨fun hlt=>?_,fun hge=>?_⟩⟩
 ·simp [eI,bt]
 ·have hlt':i<(keep.length:Int):=Pt hlt;simp only at b0 b1 b2 b3 |-;have hib:=hP.isb _ (aH (0:Int) b0 hlt');obtain ⟨l1,l2,l3,l4,l5,l6⟩:=bS hib;obtain ⟨o1,o2⟩:=Hq hP.chk hib;have hle:=hP.le i.toNat (by omega);have hlg:=hP.lg i.toNat (by omega);have hul:=kJ to hP i.toNat (by omega);have hE0:=cO pinned hP.pre i.toNat (by omega);have hE1:bt pinned keep long (i.toNat+1)=fN pinned keep long i.toNat+long.getD i.toNat 0:=rfl
  have hwl:w.length=a.length:=by
   rw [b3,PC,Qd];omega
  rw [bg (0:Int) b0 hlt',Qv,show (i+1).toNat=i.toNat+1 by omega] at b2;have hup:eI a keep to pinned long (i.toNat+1)=eI a keep to pinned long i.toNat++(qT pinned keep long i.toNat++jb a keep to (keep.getD i.toNat 0)):=rfl;have hpw:jb a keep to (keep.getD i.toNat 0)=a.getD (keep.getD i.toNat 0).toNat 0::((aY a (keep.getD i.toNat 0)).map (ll keep to)++iq a (keep.getD i.toNat 0)):=rfl;have hgw:(qT pinned keep long i.toNat).length=(fN pinned keep long i.toNat - bt pinned keep long i.toNat).toNat:=by simp [qT]
  have hgd:qT pinned keep long i.toNat=List.replicate (fN pinned keep long i.toNat - bt pinned keep long i.toNat).toNat 0:=rfl;have howd:=FD hib;rw [htg i.toNat (by omega),o1,o2,show (i+1).toNat=i.toNat+1 by omega,hup,hpw];clear hup hpw o1 o2 hib;generalize keep.getD i.toNat 0=at_ at *;have hfst:(eN a at_).1=((aY a at_).length:Int):=l1.symm;have hsnd:(eN a at_).2.1=((iq a at_).length:Int):=l2.symm;rw [hfst,hsnd] at hlg howd l4;generalize aY a at_=rs at *;generalize iq a at_=bd at *;rw [hlg] at hle hE1 |-;rw [hE1];generalize hS:eI a keep to pinned long i.toNat=S at *;generalize qT pinned keep long i.toNat=G at *;generalize fN pinned keep long i.toNat=t at *;generalize bt pinned keep long i.toNat=e at *
  have hmin:min (a.drop at_.toNat).length ((t+1+(rs.length:Int)+(bd.length:Int)).toNat - t.toNat)=(1+(rs.length:Int)+(bd.length:Int)).toNat:=by
   rw [PW];omega
  simp only [am]
  refine ⟨b0,hlt',trivial,b0,by omega,by omega,b0,by omega,by omega,by omega,by omega,by omega,by omega,by omega,by omega,by omega,by omega,by omega,
   ⟨by omega,by omega,trivial,by omega,rfl,?_⟩,fun ⟨w',⟨p1,p2⟩,k⟩ ⟨c0,c1,c2,c3,c4,c5⟩=>⟨fun hk=>?_,fun hk=>?_⟩⟩
  ·rw [hmin,howd]
   have ht1:w.take t.toNat=S++G:=by
    rw [b3,R1,PJ (by omega),List.take_replicate,hgd];congr 2;omega
   have ht2:w.drop (t.toNat+(1+(rs.length:Int)+(bd.length:Int)).toNat)=List.replicate ((a.length:Int) - (t+(1+(rs.length:Int)+(bd.length:Int)))).toNat 0:=by
    rw [b3,Rx,P7 (by omega),P0,List.drop_replicate];congr 1;omega
   rw [ht1,ht2];simp [PT]
  ·have hk:k<(rs.length:Int):=Pt hk;simp only at c0 c1 c2 c3 c4 c5 |-;rw [bg (0:Int) c0 hk] at c4 c5;have hsn:=a7 (0:Int) c0 hk;rw [hsn,Qn];generalize rs.getD k.toNat 0=x at *
   have hA:(S++(G++a.getD at_.toNat 0::(rs.take k.toNat).map (ll keep to))).length=p1+(1+k).toNat:=by
    simp only [PC,Pz,Qc,PM];omega
   have hw':w'.length=a.length:=by
    rw [c5];simp only [PC,Pz,Qc,PM,PW,Qd];omega
   rw [Qs] at c5;have hget:w'.getD (p1+(1+k).toNat) 0=x:=by rw [c5]; exact Nj hA.symm
   have hset:∀ y,w'.set (p1+(1+k).toNat) y=(S++(G++a.getD at_.toNat 0::(rs.take k.toNat).map (ll keep to)))++y::(rs.drop (k+1).toNat++(bd++List.replicate ((a.length:Int) - (t+(1+(rs.length:Int)+(bd.length:Int)))).toNat 0)):=fun y=>by
    rw [c5]; exact sY y hA.symm
   rw [hget,hset,Lb hP.rs hk0];have hg1:fl keep to (x::rs.drop (k+1).toNat)=((lZ keep to x).isSome&&fl keep to (rs.drop (k+1).toNat)):=rfl;rw [hg1] at c4;refine ⟨by omega,by omega,by omega,by omega,fun hn=>?_,fun hn=>⟨by omega,by omega,by omega,by omega,by omega,⟨by omega,by omega,c2,c3,?_,?_⟩,by omega⟩⟩
   ·have hn:(lZ keep to x).isSome=false:=by simpa using hn
    rw [hn,Q8] at c4;rw [<- c4,Q8] at b2;rw [if_neg (by rw [<- b2]; simp)];exact ⟨rfl,rfl,rfl,trivial⟩
   ·have hn:(lZ keep to x).isSome=true:=by simpa using hn
    rw [hn,QL] at c4;exact c4
   ·have hm:[x].map (ll keep to)=[(lZ keep to x).getD 0]:=rfl;rw [hm];simp [PT]
  ·have hk:¬ k<(rs.length:Int):=Pu hk;simp only at c0 c1 c2 c3 c4 c5 |-;rw [b6 hk] at c4 c5;rw [bE hk] at c5;have hg0:fl keep to []=true:=rfl;rw [hg0] at c4;rw [<- c4,QL] at b2;refine ⟨by omega,⟨by omega,by omega,b2,?_⟩,by omega⟩;rw [c5];simp [PT]
 ·have hge:¬ i<(keep.length:Int):=Pu hge;simp only at b0 b1 b2 b3 |-;rw [b6 hge,RH] at b2;rw [if_pos b2.symm];rw [show i.toNat=keep.length by omega] at b3;have hul:=kJ to hP keep.length (PP _);have hE0:=cO pinned hP.pre keep.length (PP _);have hen:=hP.en
  have hwl:w.length=a.length:=by
   rw [b3,PC,Qd];omega
  have hW:mw a keep to pinned long g=g.foldl jv w:=by
   rw [b3];rfl
  rw [hW];refine ⟨trivial,⟨by omega,by omega,trivial,rfl⟩,fun ⟨w',j⟩ ⟨d0,d1,d2,d3⟩=>⟨fun hj=>?_,fun hj=>?_⟩⟩
  ·have hj:j<(g.length:Int):=Pt hj;simp only at d0 d1 d2 d3 |-;have hr:=hgi _ (aH ((0,0):dp) d0 hj);have hsn:=a7 ((0,0):dp) d0 hj;rw [hsn,Rr,<- d3];generalize g.getD j.toNat (0,0)=r at *
   have hh:af (0,r.2 - 1,0,true)=0:=by
    simp [af,ae];omega
   rw [if_pos hh,Ra];simp only [am];exact ⟨d0,hj,by omega,by omega,trivial,hr.1,by omega,by omega,by first | trivial | rfl,by omega,⟨by omega,by omega,d2,rfl⟩,by omega⟩
  ·have hj:¬ j<(g.length:Int):=Pu hj;simp only at d3 |-;rw [bE hj] at d3;exact ⟨d3,trivial,trivial,trivial⟩
theorem KZ:Kp.ok Tryz.prog 219:=aA (ann:=Mj) (ac IR (ac lj (ac CM (ac iV ap)))) Tryz.func219 (by kernel_rfl) HG
end
section
theorem JE {a:List Int} {at_ k:Int} (h0:0<=k) (h1:k<(iq a at_).length) (l2:((iq a at_).length:Int)=(eN a at_).2.1) (l3:0<=at_) (l5:0<=(eN a at_).1) :
  a.getD (at_+1+(eN a at_).1+k).toNat 0=(iq a at_).getD k.toNat 0:=by
 rw [l2] at h1;unfold iq jJ;simp only;generalize (eN a at_).1=r at *;generalize (eN a at_).2.1=b at *;rw [List.getD_eq_getElem?_getD (l:=a),List.getD_eq_getElem?_getD,List.getElem?_drop,List.getElem?_take,if_pos (by omega)];congr 2;omega
def B2 (a keep pinned:List Int):List Int×Bool :=
 if (keep.all fun at_=>fl keep (aG keep (keep.map (ef (aa a).1)) pinned) (aY a at_))=true then
  (mw a keep (aG keep (keep.map (ef (aa a).1)) pinned) pinned (keep.map (ef (aa a).1)) (co a.length keep (keep.map (ef (aa a).1)) pinned),true)
 else ([],false)
end
section
def zX:Go.Shelf.Ren:=⟨fun | 189=>33 | 125=>105 | 257=>104 | 128=>183 | 129=>184 | 294=>174 | 295=>175 | 296=>176 | 297=>177 | 298=>178 | 299=>179 | 216=>180 | 300=>181 | 301=>182 | 328=>230 | 329=>231 | 330=>232 | 331=>233 | 332=>234 | 215=>235 | 343=>257 | n=>n,fun | 28=>31 | 3=>3 | 46=>182 | 0=>0 | 51=>267 | 53=>45 | 4=>4 | 183=>260 | 182=>259 | 131=>98 | 5=>5 | 9=>9 | 218=>306 | 222=>110 | 228=>330 | 229=>331 | n=>n,fun | n=>n⟩
theorem pK:Go.Proofs.Lays.n189 Tryz.prog zX where
 mixed:=by kernel_rfl
 f125:=Tryz.func105.trans (congrArg some (by kernel_rfl))
 f128:=Tryz.func183.trans (congrArg some (by kernel_rfl))
 f129:=Tryz.func184.trans (congrArg some (by kernel_rfl))
 f189:=Tryz.func33.trans (congrArg some (by kernel_rfl))
 f215:=Tryz.func235.trans (congrArg some (by kernel_rfl))
 f216:=Tryz.func180.trans (congrArg some (by kernel_rfl))
 f257:=Tryz.func104.trans (congrArg some (by kernel_rfl))
 f294:=Tryz.func174.trans (congrArg some (by kernel_rfl))
 f295:=Tryz.func175.trans (congrArg some (by kernel_rfl))
 f296:=Tryz.func176.trans (congrArg some (by kernel_rfl))
 f297:=Tryz.func177.trans (congrArg some (by kernel_rfl))
 f298:=Tryz.func178.trans (congrArg some (by kernel_rfl))
 f299:=Tryz.func179.trans (congrArg some (by kernel_rfl))
 f300:=Tryz.func181.trans (congrArg some (by kernel_rfl))
 f301:=Tryz.func182.trans (congrArg some (by kernel_rfl))
 f328:=Tryz.func230.trans (congrArg some (by kernel_rfl))
 f329:=Tryz.func231.trans (congrArg some (by kernel_rfl))
 f330:=Tryz.func232.trans (congrArg some (by kernel_rfl))
 f331:=Tryz.func233.trans (congrArg some (by kernel_rfl))
 f332:=Tryz.func234.trans (congrArg some (by kernel_rfl))
 f343:=Tryz.func257.trans (congrArg some (by kernel_rfl))
 t0:=RG
 a0:=Sv
 z0:=Sa
 v0:=RN
 t3:=RF
 a3:=Su
 z3:=R9
 v3:=RM
 t4:=Rf
 a4:=Sq
 z4:=R8
 v4:=RL
 t5:=Tryz.underlying5
 a5:=Tryz.isAgg5
 z5:=Tryz.sizeOf5
 v5:=Tryz.zeroValue5
 t9:=Tryz.underlying9
 a9:=Tryz.isAgg9
 z9:=Tryz.sizeOf9
 v9:=Tryz.zeroValue9
 t28:=Sp
 a28:=Tryz.isAgg31
 z28:=Tryz.sizeOf31
 v28:=Tryz.zeroValue31
 t46:=Sg
 a46:=Tryz.isAgg182
 z46:=Tryz.sizeOf182
 v46:=Sn
 t51:=Sf
 a51:=Tryz.isAgg267
 z51:=Tryz.sizeOf267
 v51:=Sm
 t53:=So
 a53:=Tryz.isAgg45
 z53:=Tryz.sizeOf45
 v53:=Tryz.zeroValue45
 t131:=Tryz.underlying98
 a131:=Tryz.isAgg98
 z131:=Tryz.sizeOf98
 v131:=Tryz.zeroValue98
 t182:=Tryz.underlying259
 a182:=Tryz.isAgg259
 z182:=Tryz.sizeOf259
 v182:=Tryz.zeroValue259
 t183:=Tryz.underlying260
 a183:=Tryz.isAgg260
 z183:=Tryz.sizeOf260
 v183:=Tryz.zeroValue260
 t218:=Tryz.underlying306
 a218:=Tryz.isAgg306
 z218:=Tryz.sizeOf306
 v218:=Tryz.zeroValue306
 t222:=Tryz.underlying110
 a222:=Tryz.isAgg110
 z222:=Tryz.sizeOf110
 v222:=Tryz.zeroValue110
 t228:=Tryz.underlying330
 a228:=Tryz.isAgg330
 z228:=Tryz.sizeOf330
 v228:=Tryz.zeroValue330
 t229:=Tryz.underlying331
 a229:=Tryz.isAgg331
 z229:=Tryz.sizeOf331
 v229:=Tryz.zeroValue331
def sI:Go.Shelf.Ren:=⟨fun | 20=>95 | n=>n,fun | 22=>31 | 3=>3 | 4=>4 | 0=>0 | n=>n,fun | n=>n⟩
theorem sq:Go.Proofs.Lays2.n20 Tryz.prog sI where
 mixed:=by kernel_rfl
 f20:=Tryz.func95.trans (congrArg some (by kernel_rfl))
 t0:=RG
 a0:=Sv
 z0:=Sa
 v0:=RN
 t3:=RF
 a3:=Su
 z3:=R9
 v3:=RM
 t4:=Rf
 a4:=Sq
 z4:=R8
 v4:=RL
 t22:=Sp
 a22:=Tryz.isAgg31
 z22:=Tryz.sizeOf31
 v22:=Tryz.zeroValue31
 i3:=by kernel_rfl
theorem ni {p:PH}:∀ {xs:List Int} {l:List Value},aM (ty_I.holds p) xs l->l=xs.map (Value.int .i64)/\∀ x∈xs,am .i64 x
 | [],l,h=>⟨h,by simp⟩
 | x::xs,l,⟨c1,c2,e,h1,h2⟩=>by
  obtain ⟨e2,h3⟩:=ni h2;obtain ⟨e1,h4⟩:=h1;subst e1 e2 e;refine ⟨rfl,fun y hy=>?_⟩;rcases PD.1 hy with rfl | hy
  ·exact h4
  ·exact h3 y hy
theorem lc {p:PH}:∀ {xs:List Int},(∀ x∈xs,am .i64 x)->aM (ty_I.holds p) xs (xs.map (Value.int .i64))
 | [],_=>rfl
 | x::xs,h=>⟨[.int .i64 x],xs.map (Value.int .i64),rfl,⟨rfl,h x (by simp)⟩,lc (fun y hy=>h y (by simp [hy]))⟩
def bM (xs:List Int):List Int:=xs.mergeSort fun x y=>decide (x<=y)
def BB:RowFn:={ e:=3,T:=ty_I,Ts:=[],out:=false,pre:=fun _ _ _=>True,F:=fun xs _ _=>bM xs }
theorem mI:BB.ok Tryz.prog 33:=by
 intro p w v (xs:List Int) l v2 (ys:List Int) l2 vs x _ _ hA hown hl hbig hp _ _ _ hargs _;have hvs:vs=[]:=hargs;subst hvs;obtain ⟨el,hin⟩:=ni hl;have hown':w.ownsRow 0 3 1 v xs.length l:=hown;have h8:xs.length * 8<=aF:=hbig;have hlen:(bM xs).length=xs.length:=RY _;rcases hown'.2 with ⟨rfl,h0⟩ | ⟨g,cap,cur,rfl,_,hb,h1,h2,h3,h4⟩
 ·have hx:xs=[]:=PO h0;subst hx;refine (Any.slices_Sort_int_none pK none 0 w).mono ?_;rintro e w' ⟨rfl,rfl⟩;have e0:BB.F ([]:List Int) ys x=([]:List Int):=by show bM []=[]; simp [bM]
  rw [e0];exact ⟨_,l,rfl,fun _=>rfl,Se _ _,hown,hl,hbig,fun b h=>.inl h⟩
 ·have hg:g<w.heap.size:=(Array.getElem?_eq_some_iff.1 hb).1;refine (Any.slices_Sort_int pK g 0 cap xs w (holds_of_blockI hb (by rw [QH] at h4; rw [h4,el])) hg (by simp only [aF] at h8; omega)).mono ?_;rintro e w' ⟨rfl,n,os,rfl⟩;refine ⟨_,(bM xs).map (Value.int .i64),rfl,fun _=>rfl,grownBy_sortedI _,?_,lc (fun y hy=>hin y (List.mem_mergeSort.1 hy)),?_,fun b h=>.inl h⟩
  ·have:=ownsRow_sortedI (n:=n) (os:=os) (ss:=xs) (ts:=bM xs) hlen (Qa _) hb h1 h2 h3;show World.ownsRow _ 0 3 1 _ (bM xs).length _;rw [hlen];exact this
  ·show (bM xs).length * 8<=aF;rw [hlen];exact h8
theorem kH (xs:List Int):(Lib.compact xs).length<=xs.length:=by
 unfold Lib.compact Lib.compactUpTo;rw [Qc];refine P9 (QD _ _) ?_;simp
theorem sz (xs:List Int) (y:Int) (hy:y∈Lib.compact xs):y∈xs:=by
 unfold Lib.compact Lib.compactUpTo at hy;obtain ⟨j,hj,rfl⟩:=P3.1 hy
 have hj2:j<xs.length:=by
  have:=(Qp.1 hj).1;simpa using this
 simp [hj2]
def ek (xs:List Int):List Int:=Lib.compact xs
def BZ:RowFn:={ e:=3,T:=ty_I,Ts:=[],out:=true,pre:=fun _ _ _=>True,F:=fun xs _ _=>ek xs }
theorem mK:BZ.ok Tryz.prog 95:=by
 intro p w v (xs:List Int) l v2 (ys:List Int) l2 vs x _ _ hA hown hl hbig hp _ _ _ hargs _;have hvs:vs=[]:=hargs;subst hvs;obtain ⟨el,hin⟩:=ni hl;have hown':w.ownsRow 0 3 1 v xs.length l:=hown;have h8:xs.length * 8<=aF:=hbig;have hle:(Lib.compact xs).length<=xs.length:=kH xs;rcases hown'.2 with ⟨rfl,h0⟩ | ⟨g,cap,cur,rfl,_,hb,h1,h2,h3,h4⟩
 ·have hx:xs=[]:=PO h0;subst hx;refine (Any.slices_Compact_int_empty sq none 0 w).mono ?_;rintro e w' ⟨rfl,rfl⟩;exact ⟨_,l,rfl,fun _=>rfl,Se _ _,hown,hl,by show (Lib.compact ([]:List Int)).length * 8<=aF; simp [Lib.compact,Lib.compactUpTo],fun b h=>.inl h⟩
 ·have hg:g<w.heap.size:=(Array.getElem?_eq_some_iff.1 hb).1;have hmem:∀ y∈Lib.compact xs,am .i64 y:=fun y hy=>hin y (sz xs y hy)
  refine (Any.slices_Compact_int sq g 0 cap xs w (holds_of_blockI hb (by rw [QH] at h4; rw [h4,el])) (by simp only [aF] at h8; omega) h1).mono ?_;rintro e w' ⟨rfl,q,rfl⟩;refine ⟨_,(Lib.compact xs).map (Value.int .i64),rfl,fun h=>(by cases h),?_,?_,lc hmem,?_,fun b h=>.inl h⟩
  ·have:=grownBy_sortedI (w:=w) (g:=g) (n:=q) (os:=#[]) (Lib.compact xs++List.replicate (xs.length - (Lib.compact xs).length) 0).toArray;rw [Sort.grow_empty] at this;exact this
  ·have hh:=heap_sortedI (w:=w) (g:=g) (n:=q) (os:=#[]) (Lib.compact xs++List.replicate (xs.length - (Lib.compact xs).length) 0).toArray hb;rw [Sort.grow_empty] at hh
   have hrow:World.ownsRow (Sort.putRow (Value.int .i64) (Sort.ahead w q) g 0 (Lib.compact xs++List.replicate (xs.length - (Lib.compact xs).length) 0).toArray) 0 3 1
     (.slice (some ⟨g,0,none⟩) (Lib.compact xs).length cap) (Lib.compact xs).length ((Lib.compact xs).map (Value.int .i64)):=by
    refine ⟨by simp,.inr ⟨g,cap,_,rfl,Qa _,hh,P9 hle h1,h2,by simp [Sort.putCells,h3],?_⟩⟩;have ht:=take_putCellsI cur (Lib.compact xs++List.replicate (xs.length - (Lib.compact xs).length) 0) (by simp; omega);have ht2:=congrArg (List.take (Lib.compact xs).length) ht;rw [QQ,QP (by simp)] at ht2;rw [QH,ht2];simp
   exact hrow
  ·show (Lib.compact xs).length * 8<=aF;omega
end
section
def du (v n:Int):Bool:=decide (-1<=v)&&decide (v<n)
def aJ (r:List Int) (n:Int):Int:=if n<0\/256<n then 4 else if 32<r.length then 2 else if (r.any fun v=>!du v n)=true then 4 else 0
def bp (r:List Int) (n:Int):List Int×Int :=
 if aJ r n≠0 then ([],aJ r n) else (ek (bM (r.filter fun v=>!decide (v<0))),0)
def nu (to:List Int) (v:Int):Int:=if 0<=v then to.getD v.toNat 0 else v
def bn (r:List Int) (n:Int) (to:List Int):List Int×Int :=
 if aJ r n≠0 then ([],aJ r n) else if (to.length:Int)≠n then ([],3) else if (to.any fun v=>!du v n)=true then ([],4) else (r.map (nu to),0)
theorem yB {r:List Int} {n v:Int} (h:(r.any fun v=>!du v n)=false) (hv:v∈r):-1<=v/\v<n:=by
 have:=RW.1 h v hv;simpa [du] using this
theorem nw {r:List Int} {n:Int} (h:aJ r n=0):(r.any fun v=>!du v n)=false:=by
 unfold aJ at h;cases hr:r.any fun v=>!du v n
 ·rfl
 ·rw [hr] at h;simp only [if_true] at h;split at h
  ·omega
  ·split at h <;> omega
theorem jg {α:Type} (f:α->Bool):∀ (l:List α) (k:Int),0<=k->(ah f k l=-1/\l.filter (fun x=>!f x)=l) \/
  ∃ j:Nat,ah f k l=k+j/\j<l.length/\(l.take (j+1)).filter (fun x=>!f x)=l.take j
 | [],k,_=>.inl ⟨rfl,rfl⟩
 | x::l,k,hk=>by
  simp only [ah];cases hx:f x
  ·rw [if_neg (by simp)];rcases jg f l (k+1) (by omega) with ⟨h1,h2⟩ | ⟨j,h1,h2,h3⟩
   ·exact .inl ⟨h1,by rw [Qj (by simp [hx]),h2]⟩
   ·exact .inr ⟨j+1,by omega,by simp; omega,by rw [QV,Qj (by simp [hx]),h3,QV]⟩
  ·rw [if_pos rfl];exact .inr ⟨0,by omega,by simp,by simp [hx]⟩
theorem LX {α:Type} (d:α) {p:α->Bool} {xs row:List α} {i j:Nat} (hij:i<j) (hj:j<xs.length) (hl:row.length=xs.length) (ht:row.take i=(xs.take j).filter p) (hd:row.drop j=xs.drop j) :
  (p (row.getD j d)=true->(row.set i (row.getD j d)).take (i+1)=(xs.take (j+1)).filter p/\(row.set i (row.getD j d)).drop (j+1)=xs.drop (j+1)) /\
  (p (row.getD j d)=false->row.take i=(xs.take (j+1)).filter p/\row.drop (j+1)=xs.drop (j+1)):=by
 have he:row.getD j d=xs.getD j d:=by
  have:=congrArg (fun l=>l.getD 0 d) hd;simpa [List.getD,List.getElem?_drop] using this
 have h1:row.drop (j+1)=xs.drop (j+1):=by
  have:=congrArg (List.drop 1) hd;simpa [QZ,Nat.add_comm] using this
 have hx:xs.take (j+1)=xs.take j++[xs.getD j d]:=by
  rw [Qh hj];simp [List.getD,hj]
 rw [he,hx,Q6];refine ⟨fun hp=>⟨?_,?_⟩,fun hp=>⟨?_,h1⟩⟩
 ·rw [List.take_set,<- ht,Qj hp,List.filter_nil];have hi:i<row.length:=by omega
  rw [Qh hi,Rl _ _ (by simp; omega)];simp [QP (Nat.le_of_lt hi)]
 ·rw [List.drop_set_of_lt (by omega),h1]
 ·rw [ht,Qy (by rw [hp]; simp)];simp
def zy:Spec:={ Ts:=[.arr ty_I],Rs:=[.own 3 ty_I],pre:=fun _=>True,F:=fun (x:List Int)=>x }
def pr:Prop :=
  ∀ (x:List Int),(x.length * 8<=aF/\∀ (x_1:Int),x_1∈x->am .i64 x_1)->True->(x=([]:List Int)->([]:List Int)=x/\True)/\(True->(0+x.length) * 8<=aF/\([]:List Int)++x=x/\True)
theorem wb:pr:=by
 unfold pr;intro x ⟨hb,_⟩ _;simp [hb]
theorem bV:zy.ok Tryz.prog 36:=aA (ann:=cn) ap Tryz.func36 (by kernel_rfl) wb
def H0:Spec:={ Ts:=[ty_I,ty_I],Rs:=[.dat .bool],pre:=fun _=>True,F:=fun ((v,n):Int×Int)=>du v n }
def xl:Prop :=
  ∀ (x:Int×Int),am .i64 x.1/\am .i64 x.2->True->(decide ((-1)<=x.1)&&decide (x.1<x.2))=du x.1 x.2/\True
theorem D2:xl:=by
 unfold xl;intro ⟨v,n⟩ _ _;simp only [du]
 grind
theorem xV:H0.ok Tryz.prog 209:=aA (ann:=cn) ap Tryz.func209 (by kernel_rfl) D2
def Ig:Spec:={ Ts:=[ty_I,.ref ty_I],Rs:=[.dat .bool],pre:=fun _=>True,F:=fun ((v,n):Int×Int)=>!du v n }
def xC:Prop :=
  ∀ (x:Int×Int),am .i64 x.1/\am .i64 x.2->True->True/\(!du x.1 x.2)=!du x.1 x.2/\True
theorem Ei:xC:=by
 unfold xC;intro ⟨v,n⟩ _ _;simp
theorem IQ:Ig.ok Tryz.prog 208:=aA (ann:=cn) (ac xV ap) Tryz.func208 (by kernel_rfl) Ei
def If:Spec:={ Ts:=[ty_I,.ref ty_I],Rs:=[.dat .bool],pre:=fun _=>True,F:=fun ((v,n):Int×Int)=>!du v n }
def xB:Prop :=
  ∀ (x:Int×Int),am .i64 x.1/\am .i64 x.2->True->True/\(!du x.1 x.2)=!du x.1 x.2/\True
theorem Eh:xB:=by
 unfold xB;intro ⟨v,n⟩ _ _;simp
theorem IP:If.ok Tryz.prog 220:=aA (ann:=cn) (ac xV ap) Tryz.func220 (by kernel_rfl) Eh
def Ie:Spec:={ Ts:=[ty_I],Rs:=[.dat .bool],pre:=fun _=>True,F:=fun (v:Int)=>decide (v<0) }
def xA:Prop :=
  ∀ (x:Int),am .i64 x->True->decide (x<0)=decide (x<0)/\True
theorem Eg:xA:=by
 unfold xA;intro v _ _;simp
theorem IO:Ie.ok Tryz.prog 251:=aA (ann:=cn) ap Tryz.func251 (by kernel_rfl) Eg
def zq:Spec:={ Ts:=[.arr ty_I,ty_I],Rs:=[.dat ty_I],pre:=fun _=>True,F:=fun ((r,n):List Int×Int)=>aJ r n }
def pj:Prop :=
  ∀ (x:List Int×Int),(x.1.length * 8<=aF/\∀ (x_1:Int),x_1∈x.1->am .i64 x_1)/\am .i64 x.2->True->((decide (x.2<0)||decide (256<x.2))=true->4=aJ x.1 x.2/\True)/\((decide (x.2<0)||decide (256<x.2))=false->(decide (32<(x.1.length:Int))=true->2=aJ x.1 x.2/\True)/\(decide (32<(x.1.length:Int))=false->(∀ (s:Int),s∈x.1->(fun (_:Int)=>True,fun (x_1:Int)=>!du x_1 x.2).1 s)/\((x.1.any fun (x_1:Int)=>!du x_1 x.2)=true->4=aJ x.1 x.2/\True)/\((x.1.any fun (x_1:Int)=>!du x_1 x.2)=false->0=aJ x.1 x.2/\True)))
theorem vV:pj:=by
 unfold pj;intro ⟨r,n⟩ ⟨⟨hb,_⟩,hn⟩ _;simp only [aJ]
 grind
theorem lF:zq.ok Tryz.prog 149:=aA (ann:=cn) (ac py (ac IQ ap)) Tryz.func149 (by kernel_rfl) vV
def AR:Nat->Option LoopGen
 | 3000250=>some cU
 | 3000251=>some cU
 | 25100000005=>some { rd:=[.own 0 3 ty_I],wr:=[0],A:=fun (xs:List Int)=>{ cs:=[.own 0 3 ty_I,.dat 5 ty_I,.dat 6 ty_I],inv:=fun ((row,i,j):List Int×Int×Int)=>0<=i/\i<j/\j<=xs.length/\row.length=xs.length/\row.take i.toNat=(xs.take j.toNat).filter (fun v=>!decide (v<0))/\row.drop j.toNat=xs.drop j.toNat,mu:=fun ((_,_,j):List Int×Int×Int)=>(xs.length - j).toNat } }
 | _=>none
def zp:Spec:={ Ts:=[.arr ty_I,ty_I],Rs:=[.own 3 ty_I,.dat ty_I],pre:=fun _=>True,F:=fun ((r,n):List Int×Int)=>bp r n }
def pi:Prop :=
  ∀ (x:List Int×Int),(x.1.length * 8<=aF/\∀ (x_1:Int),x_1∈x.1->am .i64 x_1)/\am .i64 x.2->True->True/\(decide (aJ x.1 x.2≠0)=true->([]:List Int)=(bp x.1 x.2).1/\aJ x.1 x.2=(bp x.1 x.2).2/\True)/\(decide (aJ x.1 x.2≠0)=false->True/\∀ (_:Array Value),(∀ (s:Int),s∈x.1->(fun (_:Int)=>True,fun (x:Int)=>decide (x<0)).1 s)/\(decide (ah (fun (x:Int)=>decide (x<0)) 0 x.1=(-1))=true->True/\True/\ek (bM x.1)=(bp x.1 x.2).1/\0=(bp x.1 x.2).2/\True)/\(decide (ah (fun (x:Int)=>decide (x<0)) 0 x.1=(-1))=false->am .i64 (ah (fun (x:Int)=>decide (x<0)) 0 x.1+1)/\(0<=ah (fun (x:Int)=>decide (x<0)) 0 x.1/\ah (fun (x:Int)=>decide (x<0)) 0 x.1<ah (fun (x:Int)=>decide (x<0)) 0 x.1+1/\ah (fun (x:Int)=>decide (x<0)) 0 x.1+1<=(x.1.length:Int)/\x.1.length=x.1.length/\List.take (ah (fun (x:Int)=>decide (x<0)) 0 x.1).toNat x.1=List.filter (fun (v:Int)=>!decide (v<0)) (List.take (ah (fun (x:Int)=>decide (x<0)) 0 x.1+1).toNat x.1)/\List.drop (ah (fun (x:Int)=>decide (x<0)) 0 x.1+1).toNat x.1=List.drop (ah (fun (x:Int)=>decide (x<0)) 0 x.1+1).toNat x.1)/\∀ (x_1:List Int×Int×Int),0<=x_1.2.1/\x_1.2.1<x_1.2.2/\x_1.2.2<=(x.1.length:Int)/\x_1.1.length=x.1.length/\List.take x_1.2.1.toNat x_1.1=List.filter (fun (v:Int)=>!decide (v<0)) (List.take x_1.2.2.toNat x.1)/\List.drop x_1.2.2.toNat x_1.1=List.drop x_1.2.2.toNat x.1->(decide (x_1.2.2<(x_1.1.length:Int))=true->0<=x_1.2.2/\x_1.2.2<(x_1.1.length:Int)/\x_1.2.2.toNat<x_1.1.length/\∀ (_:Array Value),((!decide (x_1.1.getD x_1.2.2.toNat (0:Int)<0))=true->0<=x_1.2.1/\x_1.2.1<(x_1.1.length:Int)/\x_1.2.1.toNat<x_1.1.length/\am .i64 (x_1.2.1+1)/\am .i64 (x_1.2.2+1)/\(0<=x_1.2.1+1/\x_1.2.1+1<x_1.2.2+1/\x_1.2.2+1<=(x.1.length:Int)/\(x_1.1.set x_1.2.1.toNat (x_1.1.getD x_1.2.2.toNat 0)).length=x.1.length/\List.take (x_1.2.1+1).toNat (x_1.1.set x_1.2.1.toNat (x_1.1.getD x_1.2.2.toNat 0))=List.filter (fun (v:Int)=>!decide (v<0)) (List.take (x_1.2.2+1).toNat x.1)/\List.drop (x_1.2.2+1).toNat (x_1.1.set x_1.2.1.toNat (x_1.1.getD x_1.2.2.toNat 0))=List.drop (x_1.2.2+1).toNat x.1)/\((x.1.length:Int) - (x_1.2.2+1)).toNat<((x.1.length:Int) - x_1.2.2).toNat)/\((!decide (x_1.1.getD x_1.2.2.toNat (0:Int)<0))=false->am .i64 (x_1.2.2+1)/\(0<=x_1.2.1/\x_1.2.1<x_1.2.2+1/\x_1.2.2+1<=(x.1.length:Int)/\x_1.1.length=x.1.length/\List.take x_1.2.1.toNat x_1.1=List.filter (fun (v:Int)=>!decide (v<0)) (List.take (x_1.2.2+1).toNat x.1)/\List.drop (x_1.2.2+1).toNat x_1.1=List.drop (x_1.2.2+1).toNat x.1)/\((x.1.length:Int) - (x_1.2.2+1)).toNat<((x.1.length:Int) - x_1.2.2).toNat))/\(decide (x_1.2.2<(x_1.1.length:Int))=false->0<=x_1.2.1/\x_1.2.1<=(x_1.1.length:Int)/\x_1.2.1.toNat+(x_1.1.length - x_1.2.1.toNat)<=x_1.1.length/\0<=x_1.2.1/\x_1.2.1<=(↑(List.take x_1.2.1.toNat x_1.1++(List.replicate (x_1.1.length - x_1.2.1.toNat) (0:Int)++List.drop (x_1.2.1.toNat+(x_1.1.length - x_1.2.1.toNat)) x_1.1)).length:Int)/\True/\True/\ek (bM (List.take x_1.2.1.toNat (List.take x_1.2.1.toNat x_1.1++(List.replicate (x_1.1.length - x_1.2.1.toNat) (0:Int)++List.drop (x_1.2.1.toNat+(x_1.1.length - x_1.2.1.toNat)) x_1.1))))=(bp x.1 x.2).1/\0=(bp x.1 x.2).2/\True)))
theorem vU:pi:=by
 unfold pi;intro ⟨r,n⟩ ⟨⟨hb,_⟩,_⟩ _;unfold aF at hb;simp only at hb |-;refine ⟨trivial,fun h=>?_,fun h=>⟨trivial,fun _=>⟨fun _ _=>trivial,fun h2=>?_,fun h2=>?_⟩⟩⟩
 ·simp only [bp];rw [if_pos (Pt h)];exact ⟨rfl,rfl,trivial⟩
 ·have h2:=Pt h2;refine ⟨trivial,trivial,?_⟩;simp only [bp];rw [if_neg (Pu h)];rcases jg (fun x:Int=>decide (x<0)) r 0 (by omega) with ⟨_,h3⟩ | ⟨j,h3,_⟩
  ·rw [h3];exact ⟨rfl,rfl,trivial⟩
  ·omega
 have h2:=Pu h2;rcases jg (fun x:Int=>decide (x<0)) r 0 (by omega) with ⟨h3,_⟩ | ⟨j,h3,h4,h5⟩
 ·exact absurd h3 h2
 rw [h3];refine ⟨by simp only [am]; omega,⟨by omega,by omega,by omega,trivial,?_,trivial⟩,fun ⟨row,i,j⟩ ⟨k0,k1,k2,k3,k4,k5⟩=>⟨fun hlt=>?_,fun hge=>?_⟩⟩
 ·rw [show (0+(j:Int)+1).toNat=j+1 by omega,show (0+(j:Int)).toNat=j by omega,h5]
 ·simp only at k0 k1 k2 k3 k4 k5 hlt |-;have hlt:=Pt hlt;have hs:=LX (0:Int) (p:=fun v=>!decide (v<0)) (xs:=r) (row:=row) (i:=i.toNat) (j:=j.toNat) (by omega) (by omega) k3 k4 k5;refine ⟨by omega,by omega,by omega,fun _=>⟨fun hp=>?_,fun hp=>?_⟩⟩
  ·obtain ⟨q1,q2⟩:=hs.1 hp;refine ⟨by omega,by omega,by omega,by simp only [am]; omega,by simp only [am]; omega,⟨by omega,by omega,by omega,by simpa using k3,?_,?_⟩,by omega⟩
   ·rw [show (i+1).toNat=i.toNat+1 by omega,show (j+1).toNat=j.toNat+1 by omega];exact q1
   ·rw [show (j+1).toNat=j.toNat+1 by omega];exact q2
  ·obtain ⟨q1,q2⟩:=hs.2 hp;refine ⟨by simp only [am]; omega,⟨by omega,by omega,by omega,k3,?_,?_⟩,by omega⟩
   ·rw [show (j+1).toNat=j.toNat+1 by omega];exact q1
   ·rw [show (j+1).toNat=j.toNat+1 by omega];exact q2
 ·simp only at k0 k1 k2 k3 k4 k5 hge |-;have hge:=Pu hge;have hj:j.toNat=r.length:=by omega
  have e1:List.take i.toNat (List.take i.toNat row++(List.replicate (row.length - i.toNat) 0++List.drop (i.toNat+(row.length - i.toNat)) row))=List.take i.toNat row:=by
   rw [PQ (by simp; omega),QQ,Nat.min_self]
  refine ⟨by omega,by omega,by omega,by omega,by simp; omega,trivial,trivial,?_⟩;rw [e1,k4,hj,PJ (PP _)];simp only [bp];rw [if_neg (Pu h)];exact ⟨rfl,rfl,trivial⟩
theorem zR:zp.ok Tryz.prog 211:=aA (ann:=AR) (ac lF (ac bV (ac IO (ac CP (fO mI (fO mK ap)))))) Tryz.func211 (by kernel_rfl) vU
def DN:Nat->Option LoopGen
 | 10=>some { rd:=[.dat 2 (.arr ty_I),.dat 0 (.arr ty_I)],wr:=[9,30],A:=fun ((to,r):List Int×List Int)=>{ cs:=[.own 9 3 ty_I,.same 30 9,.dat 32 ty_I],inv:=fun ((out,_,i):List Int×Unit×Int)=>0<=i/\i<=r.length/\(∀ v∈r,v<to.length)/\out=(r.take i.toNat).map (nu to)++r.drop i.toNat,mu:=fun ((_,_,i):List Int×Unit×Int)=>(r.length - i).toNat } }
 | _=>none
def BC:Spec:={ Ts:=[.arr ty_I,ty_I,.arr ty_I],Rs:=[.own 3 ty_I,.dat ty_I],pre:=fun _=>True,F:=fun ((r,n,to):List Int×Int×List Int)=>bn r n to }
def rF:Prop :=
  ∀ (x:List Int×Int×List Int),((x.1.length * 8<=aF/\∀ (x_1:Int),x_1∈x.1->am .i64 x_1)/\am .i64 x.2.1/\x.2.2.length * 8<=aF/\∀ (x_1:Int),x_1∈x.2.2->am .i64 x_1)->True->True/\(decide (aJ x.1 x.2.1≠0)=true->([]:List Int)=(bn x.1 x.2.1 x.2.2).1/\aJ x.1 x.2.1=(bn x.1 x.2.1 x.2.2).2/\True)/\(decide (aJ x.1 x.2.1≠0)=false->(decide ((x.2.2.length:Int)≠x.2.1)=true->([]:List Int)=(bn x.1 x.2.1 x.2.2).1/\3=(bn x.1 x.2.1 x.2.2).2/\True)/\(decide ((x.2.2.length:Int)≠x.2.1)=false->(∀ (s:Int),s∈x.2.2->(fun (_:Int)=>True,fun (x_1:Int)=>!du x_1 x.2.1).1 s)/\((x.2.2.any fun (x_1:Int)=>!du x_1 x.2.1)=true->([]:List Int)=(bn x.1 x.2.1 x.2.2).1/\4=(bn x.1 x.2.1 x.2.2).2/\True)/\((x.2.2.any fun (x_1:Int)=>!du x_1 x.2.1)=false->True/\((0:Int)<=0/\0<=(x.1.length:Int)/\(∀ (v:Int),v∈x.1->v<(x.2.2.length:Int))/\x.1=List.map (nu x.2.2) (List.take (Int.toNat 0) x.1)++List.drop (Int.toNat 0) x.1)/\∀ (x_1:List Int×Unit×Int),0<=x_1.2.2/\x_1.2.2<=(x.1.length:Int)/\(∀ (v:Int),v∈x.1->v<(x.2.2.length:Int))/\x_1.1=List.map (nu x.2.2) (List.take x_1.2.2.toNat x.1)++List.drop x_1.2.2.toNat x.1->(decide (x_1.2.2<(x.1.length:Int))=true->0<=x_1.2.2/\x_1.2.2<(x_1.1.length:Int)/\x_1.2.2.toNat<x_1.1.length/\(decide (0<=x_1.1.getD x_1.2.2.toNat 0)=true->0<=x_1.1.getD x_1.2.2.toNat 0/\x_1.1.getD x_1.2.2.toNat 0<(x.2.2.length:Int)/\0<=x_1.2.2/\x_1.2.2<(x_1.1.length:Int)/\x_1.2.2.toNat<x_1.1.length/\am .i64 (x_1.2.2+1)/\(0<=x_1.2.2+1/\x_1.2.2+1<=(x.1.length:Int)/\(∀ (v:Int),v∈x.1->v<(x.2.2.length:Int))/\x_1.1.set x_1.2.2.toNat (x.2.2.getD (x_1.1.getD x_1.2.2.toNat 0).toNat 0)=List.map (nu x.2.2) (List.take (x_1.2.2+1).toNat x.1)++List.drop (x_1.2.2+1).toNat x.1)/\((x.1.length:Int) - (x_1.2.2+1)).toNat<((x.1.length:Int) - x_1.2.2).toNat)/\(decide (0<=x_1.1.getD x_1.2.2.toNat 0)=false->am .i64 (x_1.2.2+1)/\(0<=x_1.2.2+1/\x_1.2.2+1<=(x.1.length:Int)/\(∀ (v:Int),v∈x.1->v<(x.2.2.length:Int))/\x_1.1=List.map (nu x.2.2) (List.take (x_1.2.2+1).toNat x.1)++List.drop (x_1.2.2+1).toNat x.1)/\((x.1.length:Int) - (x_1.2.2+1)).toNat<((x.1.length:Int) - x_1.2.2).toNat))/\(decide (x_1.2.2<(x.1.length:Int))=false->x_1.1=(bn x.1 x.2.1 x.2.2).1/\0=(bn x.1 x.2.1 x.2.2).2/\True))))
theorem yI:rF:=by
 unfold rF;intro ⟨r,n,to⟩ ⟨⟨hb,_⟩,_⟩ _;unfold aF at hb;simp only at hb |-;refine ⟨trivial,fun h=>?_,fun h=>⟨fun h2=>?_,fun h2=>⟨fun _ _=>trivial,fun h3=>?_,fun h3=>⟨trivial,?_,fun ⟨out,_,i⟩ ⟨k0,k1,k2,k3⟩=>?_⟩⟩⟩⟩
 ·simp only [bn];rw [if_pos (Pt h)];exact ⟨rfl,rfl,trivial⟩
 ·simp only [bn];rw [if_neg (Pu h),if_pos (Pt h2)];exact ⟨rfl,rfl,trivial⟩
 ·simp only [bn];rw [if_neg (Pu h),if_neg (Pu h2),if_pos h3];exact ⟨rfl,rfl,trivial⟩
 ·have h:=Pu h;have h2:=Pu h2;have hf:aJ r n=0:=by omega
  have hr:(r.any fun v=>!du v n)=false:=nw hf;refine ⟨by omega,by omega,fun v hv=>?_,by simp⟩;have:=(yB hr hv).2;omega
 ·simp only at k0 k1 k2 k3 |-;refine ⟨fun hlt=>?_,fun hge=>?_⟩
  ·have hlt:=Pt hlt
   have hgd:out.getD i.toNat 0=r.getD i.toNat 0:=by
    rw [k3];simp only [List.getD_eq_getElem?_getD];rw [List.getElem?_append_right (by simp; omega)];simp only [Qc,PM,List.getElem?_drop];congr 2;omega
   have hol:out.length=r.length:=by rw [k3]; simp; omega
   have hrd:r.drop i.toNat=r.getD i.toNat 0::r.drop (i+1).toNat:=bg 0 k0 hlt
   have htk:r.take (i+1).toNat=r.take i.toNat++[r.getD i.toNat 0]:=by
    rw [show (i+1).toNat=i.toNat+1 by omega,Qh (by omega)];simp [List.getD,show i.toNat<r.length by omega]
   have hset:∀ y,out.set i.toNat y=(r.take i.toNat).map (nu to)++y::r.drop (i+1).toNat:=by
    intro y;rw [k3,hrd,Rl _ _ (by simp; omega)];simp [QP (show i.toNat<=r.length by omega)]
   have hmem:=k2 _ (aH (0:Int) k0 hlt);rw [hgd];refine ⟨k0,by omega,by omega,fun hc=>?_,fun hc=>?_⟩
   ·have hc:=Pt hc;refine ⟨hc,hmem,k0,by omega,by omega,by simp only [am]; omega,⟨by omega,by omega,k2,?_⟩,by omega⟩;have e1:nu to (r.getD i.toNat 0)=to.getD (r.getD i.toNat 0).toNat 0:=if_pos hc;rw [hset,htk,Qn,<- e1];simp
   ·have hc:=Pu hc;refine ⟨by simp only [am]; omega,⟨by omega,by omega,k2,?_⟩,by omega⟩;have e1:nu to (r.getD i.toNat 0)=r.getD i.toNat 0:=if_neg hc;rw [k3,hrd,htk,Qn,List.map_singleton,e1];simp
  ·have hge:=Pu hge;have hi:i.toNat=r.length:=by omega
   simp only [bn];rw [if_neg (Pu h),if_neg (Pu h2),if_neg (by rw [h3]; simp),k3,hi];simp
theorem se:BC.ok Tryz.prog 159:=aA (ann:=DN) (ac lF (ac bV (ac py (ac IP ap)))) Tryz.func159 (by kernel_rfl) yI
def fa (l:List Int) (m:Nat):List Int:=((List.range m).map Int.ofNat).filter (cu l)
end
section
theorem bi {l:List Int} {n:Int}:cu l n=true ↔ n∈l:=by
 unfold cu;rw [Qt];exact ⟨fun ⟨x,h1,h2⟩=>Pt h2 ▸ h1,fun h=>⟨n,h,by simp⟩⟩
theorem jY (d:Array Int) (hd:∀ i j,i<j->j<d.size->d[i]!<=d[j]!):∀ m,m<=d.size ->
  (Lib.compactUpTo d m).Pairwise (·<·)/\(∀ x∈Lib.compactUpTo d m,∃ j,j<m/\x=d[j]!)/\∀ j,j<m->d[j]!∈Lib.compactUpTo d m
 | 0,_=>by
  have e:Lib.compactUpTo d 0=[]:=rfl;rw [e];exact ⟨.nil,fun x hx=>(by cases hx),fun j hj=>by omega⟩
 | m+1,hm=>by
  obtain ⟨h1,h2,h3⟩:=jY d hd m (by omega);rw [Lib.compactUpTo_succ];cases hk:Lib.keeps d m
  ·simp only [PG,P5,Qi];have hk:¬ (m=0\/d[m]!≠d[m - 1]!):=Pu hk;refine ⟨h1,fun x hx=>?_,fun j hj=>?_⟩
   ·obtain ⟨j,hj,e⟩:=h2 x hx;exact ⟨j,by omega,e⟩
   ·by_cases hjm:j=m
    ·subst hjm;have e:d[j]! = d[j - 1]!:=Qm fun h=>hk (.inr h)
     rw [e];exact h3 _ (by omega)
    ·exact h3 j (by omega)
  ·simp only [if_true];have hk:m=0\/d[m]!≠d[m - 1]!:=Pt hk;refine ⟨RC.2 ⟨h1,List.pairwise_singleton _ _,fun x hx y hy=>?_⟩,fun x hx=>?_,fun j hj=>?_⟩
   ·rw [PB.1 hy];obtain ⟨j,hj,e⟩:=h2 x hx;subst e;have h5:=hd (m - 1) m (by omega) (by omega);by_cases hjm:j=m - 1
    ·subst hjm;omega
    ·have:=hd j (m - 1) (by omega) (by omega);omega
   ·rcases PI.1 hx with hx | hx
    ·obtain ⟨j,hj,e⟩:=h2 x hx;exact ⟨j,by omega,e⟩
    ·exact ⟨m,by omega,PB.1 hx⟩
   ·by_cases hjm:j=m
    ·subst hjm;simp
    ·exact PE _ (h3 j (by omega))
theorem hZ (xs:List Int):(bM xs).Pairwise (·<=·):=by
 have:=List.pairwise_mergeSort (le:=fun x y:Int=>decide (x<=y)) (fun a b c h1 h2=>by simp only [Qk] at *; omega) (fun a b=>by simp only [Qq,Qk]; omega) xs;exact this.imp (fun h=>Pt h)
theorem k8 {xs:List Int} {x:Int}:x∈bM xs ↔ x∈xs:=List.mem_mergeSort
theorem jn (xs:List Int):(bM xs).length=xs.length:=RY _
theorem l8 {xs:List Int} (h:xs.Pairwise (·<=·)):(ek xs).Pairwise (·<·)/\∀ x,x∈ek xs ↔ x∈xs:=by
 have hd:∀ i j,i<j->j<xs.toArray.size->xs.toArray[i]!<=xs.toArray[j]!:=by
  intro i j hij hj;have hj:j<xs.length:=by simpa using hj
  have:=Rm.1 h i j (by omega) hj hij;simpa [show i<xs.length by omega,hj] using this
 obtain ⟨h1,h2,h3⟩:=jY xs.toArray hd xs.length (by simp);refine ⟨h1,fun x=>⟨fun hx=>sz xs x hx,fun hx=>?_⟩⟩;obtain ⟨j,hj,e⟩:=List.getElem_of_mem hx;have:=h3 j hj;simp only [List.getElem!_toArray,hj,getElem!_pos,e] at this;exact this
theorem gP:∀ {l k:List Int},l.Pairwise (·<·)->k.Pairwise (·<·)->(∀ x,x∈l ↔ x∈k)->l=k
 | [],[],_,_,_=>rfl
 | [],y::k,_,_,h=>absurd ((h y).2 (by simp)) (by simp)
 | x::l,[],_,_,h=>absurd ((h x).1 (by simp)) (by simp)
 | x::l,y::k,hl,hk,h=>by
  obtain ⟨a1,a2⟩:=Qe.1 hl;obtain ⟨b1,b2⟩:=Qe.1 hk
  have e:x=y:=by
   have h1:=(h x).1 (by simp);have h2:=(h y).2 (by simp);rcases PD.1 h1 with h1 | h1
   ·exact h1
   ·rcases PD.1 h2 with h2 | h2
    ·exact h2.symm
    ·have:=b1 x h1;have:=a1 y h2;omega
  subst e;rw [gP a2 b2 (fun z=>⟨fun hz=>?_,fun hz=>?_⟩)]
  ·have:=(h z).1 (by simp [hz]);rcases PD.1 this with e | h1
   ·subst e;exact absurd (a1 z hz) (by omega)
   ·exact h1
  ·have:=(h z).2 (by simp [hz]);rcases PD.1 this with e | h1
   ·subst e;exact absurd (b1 z hz) (by omega)
   ·exact h1
theorem Jf (m:Nat):((List.range m).map Int.ofNat).Pairwise (·<·):=by
 rw [List.pairwise_map];exact List.pairwise_lt_range.imp (fun h=>by simp only [RE]; omega)
theorem fE (l:List Int) (m:Nat):(fa l m).Pairwise (·<·):=(Jf m).filter _
theorem eq {l:List Int} {m:Nat} {x:Int}:x∈fa l m ↔ 0<=x/\x<m/\x∈l:=by
 unfold fa;rw [Qp,bi,P3];constructor
 ·rintro ⟨⟨j,hj,rfl⟩,hx⟩;have:=RD.1 hj;simp only [RE] at *;exact ⟨by omega,by omega,hx⟩
 ·rintro ⟨h1,h2,h3⟩;exact ⟨⟨x.toNat,RD.2 (by omega),by simp only [RE]; omega⟩,h3⟩
theorem Iz {l k:List Int} {m:Nat} (hl:l.Pairwise (·<·)) (h:∀ x,x∈l ↔ 0<=x/\x<m/\x∈k):l=fa k m :=
 gP hl (fE k m) (fun x=>by rw [eq]; exact h x)
end
section
def a8 (a:List Int) (x:Int):List Int:=((aY a x).filter fun v=>decide (v≠0)).map (· - 1)
inductive Rch (a from_:List Int):Int->Prop
 | base {x:Int}:x∈from_->Rch a from_ x
 | step {x y:Int}:Rch a from_ x->y∈a8 a x->Rch a from_ y
def qj (a l:List Int):Bool:=l.all fun x=>(a8 a x).all (cu l)
def pD (a l:List Int):List Int:=l++l.flatMap (a8 a)
def sr (a:List Int):Nat->List Int->List Int
 | 0,l=>l
 | n+1,l=>if qj a l=true then l else sr a n (pD a l)
def br (a from_:List Int):List Int:=fa (sr a 257 from_) 256
theorem nP {α:Type} {p q:α->Bool}:∀ (l:List α),(∀ x∈l,p x=true->q x=true)->(l.filter p).length<=(l.filter q).length
 | [],_=>by simp
 | x::l,h=>by
  have ih:=nP l (fun y hy=>h y (by simp [hy]));have hx:=h x (by simp);cases hp:p x
  ·rw [Qy (by simp [hp])];cases hq:q x
   ·rw [Qy (by simp [hq])]; exact ih
   ·rw [Qj hq,Pz]; omega
  ·rw [Qj hp,Qj (hx hp),Pz,Pz]; omega
theorem nO {α:Type} {p q:α->Bool}:∀ (l:List α),(∀ x∈l,p x=true->q x=true)->(∃ x∈l,p x=false/\q x=true)->(l.filter p).length<(l.filter q).length
 | [],_,h=>by obtain ⟨x,hx,_⟩:=h; cases hx
 | x::l,h,⟨y,hy,hp,hq⟩=>by
  have h':∀ y∈l,p y=true->q y=true:=fun y hy=>h y (by simp [hy])
  have le:=nP l h';rcases PD.1 hy with rfl | hy
  ·rw [Qy (by simp [hp]),Qj hq,Pz]; omega
  ·have ih:=nO l h' ⟨y,hy,hp,hq⟩;have hx:=h x (by simp);cases hp:p x
   ·rw [Qy (by simp [hp])];cases hq:q x
    ·rw [Qy (by simp [hq])]; exact ih
    ·rw [Qj hq,Pz]; omega
   ·rw [Qj hp,Qj (hx hp),Pz,Pz]; omega
def F7 (l:List Int):Nat:=(fa l 256).length
theorem OA (l:List Int):F7 l<=256:=by
 have:=QD (cu l) ((List.range 256).map Int.ofNat);unfold F7 fa;simpa using this
theorem Oz {l k:List Int} (h:∀ x∈l,x∈k) {y:Int} (hy:y∈k) (hn:¬ y∈l) (h0:0<=y) (h1:y<=255):F7 l<F7 k:=by
 refine nO _ (fun x _ hx=>bi.2 (h x (bi.1 hx))) ⟨y,?_,?_,bi.2 hy⟩
 ·rw [P3];exact ⟨y.toNat,RD.2 (by omega),by simp only [RE]; omega⟩
 ·cases hl:cu l y
  ·rfl
  ·exact absurd (bi.1 hl) hn
theorem sA {a l:List Int}:qj a l=true ↔ ∀ x∈l,∀ y∈a8 a x,y∈l:=by
 unfold qj;simp only [PA,bi]
theorem cA {a:List Int} {x:Int} (h:isB (aa a).1 x=true):0<=x/\x<=255:=gL _ (pP h).1
theorem jA {a:List Int} (hw:∀ x∈a,am .u64 x) (hc:(ai a).2.2=0) {x y:Int} (hx:isB (aa a).1 x=true) (hy:y∈a8 a x):isB (aa a).1 y=true:=by
 unfold a8 at hy;obtain ⟨v,hv,rfl⟩:=P3.1 hy;obtain ⟨hv,h0⟩:=Qp.1 hv;have h0:=Pt h0;rcases jM hw hc _ (fU hx).1 v hv with e | ⟨_,_,e⟩
 ·exact absurd e h0
 ·exact e
theorem Rch.isB {a from_:List Int} (hw:∀ x∈a,am .u64 x) (hc:(ai a).2.2=0) (hf:∀ x∈from_,isB (aa a).1 x=true) {x:Int} (h:Rch a from_ x):isB (aa a).1 x=true:=by
 induction h with
 | base h=>exact hf _ h
 | step _ h ih=>exact jA hw hc ih h
theorem Rch.mem {a from_ l:List Int} (h1:∀ x∈from_,x∈l) (h2:∀ x∈l,∀ y∈a8 a x,y∈l) {x:Int} (h:Rch a from_ x):x∈l:=by
 induction h with
 | base h=>exact h1 _ h
 | step _ h ih=>exact h2 _ ih _ h
theorem Rch.mono {a f g:List Int} (h:∀ x∈f,Rch a g x) {x:Int} (hx:Rch a f x):Rch a g x:=by
 induction hx with
 | base hx=>exact h _ hx
 | step _ hy ih=>exact .step ih hy
theorem yd (a:List Int):∀ (n:Nat) (l:List Int),∀ x∈l,x∈sr a n l
 | 0,_,_,h=>h
 | n+1,l,x,h=>by
  unfold sr;split
  ·exact h
  ·exact yd a n _ x (by unfold pD; simp [h])
theorem ye {a f:List Int}:∀ (n:Nat) (l:List Int),(∀ x∈l,Rch a f x)->∀ x∈sr a n l,Rch a f x
 | 0,_,h,x,hx=>h x hx
 | n+1,l,h,x,hx=>by
  unfold sr at hx;split at hx
  ·exact h x hx
  ·refine ye n _ (fun y hy=>?_) x hx;unfold pD at hy;rcases PI.1 hy with hy | hy
   ·exact h y hy
   ·obtain ⟨z,hz,hy⟩:=Ri.1 hy;exact .step (h z hz) hy
theorem pN {a:List Int} (hw:∀ x∈a,am .u64 x) (hc:(ai a).2.2=0):∀ (n:Nat) (l:List Int),(∀ x∈l,isB (aa a).1 x=true)->257<=n+F7 l->qj a (sr a n l)=true
 | 0,l,_,hn=>by have:=OA l; omega
 | n+1,l,hl,hn=>by
  unfold sr;by_cases h:qj a l=true
  ·rw [if_pos h]; exact h
  rw [if_neg h]
  have hl2:∀ x∈pD a l,isB (aa a).1 x=true:=by
   intro y hy;unfold pD at hy;rcases PI.1 hy with hy | hy
   ·exact hl y hy
   ·obtain ⟨z,hz,hy⟩:=Ri.1 hy;exact jA hw hc (hl z hz) hy
  refine pN hw hc n _ hl2 ?_;rw [sA] at h
  have h:∃ x,x∈l/\∃ y,y∈a8 a x/\¬ y∈l:=by
   apply Qm;intro hno;apply h;intro x hx y hy;apply Qm;intro hyl;exact hno ⟨x,hx,y,hy,hyl⟩
  obtain ⟨x,hx,y,hy,hyl⟩:=h
  have hy2:y∈pD a l:=by
   unfold pD;exact PK _ (Ri.2 ⟨x,hx,hy⟩)
  have hr:=cA (hl2 y hy2);have:=Oz (l:=l) (k:=pD a l) (fun z hz=>by unfold pD; simp [hz]) hy2 hyl hr.1 hr.2;omega
theorem fo {a from_:List Int} (hw:∀ x∈a,am .u64 x) (hc:(ai a).2.2=0) (hf:∀ x∈from_,isB (aa a).1 x=true) {x:Int}:x∈br a from_ ↔ Rch a from_ x:=by
 unfold br;rw [eq];constructor
 ·intro h;exact ye 257 from_ (fun y hy=>.base hy) x h.2.2
 ·intro h;have hr:=cA (h.isB hw hc hf);refine ⟨hr.1,by omega,?_⟩;have hcl:=sA.1 (pN hw hc 257 from_ hf (by omega));exact h.mem (yd a 257 from_) hcl
theorem jN (a from_:List Int):(br a from_).Pairwise (·<·):=fE _ _
structure Full (a from_ out:List Int):Prop where
 has:∀ x∈from_,x∈out
 only:∀ x∈out,Rch a from_ x
 all:∀ x∈out,∀ y∈a8 a x,y∈out
theorem Full.iff {a from_ out:List Int} (h:Full a from_ out) {x:Int}:x∈out ↔ Rch a from_ x:=⟨h.only x,fun hx=>hx.mem h.has h.all⟩
theorem Full.sorted {a from_ out:List Int} (hw:∀ x∈a,am .u64 x) (hc:(ai a).2.2=0) (hf:∀ x∈from_,isB (aa a).1 x=true) (h:Full a from_ out) (hd:out.Nodup):bM out=br a from_:=by
 refine gP ?_ (jN _ _) (fun x=>by rw [k8,fo hw hc hf,h.iff]);have h1:=hZ out;have h2:(bM out).Nodup:=(List.mergeSort_perm out _).nodup_iff.2 hd;have h3:=h1.and h2;exact h3.imp (fun ⟨x,y⟩=>by omega)
def au (a from_:List Int):Int:=if (ai a).2.2≠0 then (ai a).2.2 else if from_.all (isB (aa a).1)=true then 0 else 5
def bI (a from_:List Int):List Int×Int:=if au a from_≠0 then ([],au a from_) else (br a from_,0)
theorem bW {a from_:List Int} (h:au a from_=0):(ai a).2.2=0/\∀ x∈from_,isB (aa a).1 x=true:=by
 unfold au at h;split at h
 ·rename_i h1; exact absurd h h1
 ·rename_i h1;split at h
  ·rename_i h2;exact ⟨by omega,PA.1 h2⟩
  ·omega
theorem il {a from_:List Int} (h1:(ai a).2.2=0) (h2:∀ x∈from_,isB (aa a).1 x=true):au a from_=0:=by
 unfold au;rw [if_neg (by omega),if_pos (PA.2 h2)]
end
end Go.Proofs.YtmfileeamnfpaaaGreatDoor
