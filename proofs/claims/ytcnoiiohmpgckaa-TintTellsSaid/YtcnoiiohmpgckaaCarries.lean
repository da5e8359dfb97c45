
import Derived.Test.YtcnoiiohmpgckaaCarryPure
namespace Go.Proofs.Ytcnoiiohmpgckaa
open Go
set_option maxRecDepth 100000
set_option maxHeartbeats 1000000
def vl:Nat→Option LoopGen
 | 3=>some { rd:=[.dat 0 (.arr aM),.dat 10 (.arr ty_I)],A:=fun ((a,l):List Int×List Int)=>{ cs:=[.dat 5 ty_I,.dat 12 ty_I],inv:=fun ((n,i):Int×Int)=>0≤i∧i≤l.length∧n=cS a (l.take i.toNat),mu:=fun ((_,i):Int×Int)=>(l.length - i).toNat } }
 | _=>none
def uG:Spec:={ Ts:=[.arr aM,.arr ty_I],Rs:=[.dat ty_I],pre:=fun _=>True,F:=fun ((a,l):List Int×List Int)=>cS a l }
def oE:Prop :=
  ∀ (x:List Int×List Int),((x.1.length * 8≤aI∧∀ (x_1:Int),x_1∈x.1→aj .u64 x_1)∧x.2.length * 8≤aI∧∀ (x_1:Int),x_1∈x.2→aj .i64 x_1)→True→((0:Int)≤0∧0≤(↑x.2.length:Int)∧0=cS x.1 (List.take (Int.toNat 0) x.2))∧∀ (x_1:Int×Int),0≤x_1.2∧x_1.2≤(↑x.2.length:Int)∧x_1.1=cS x.1 (List.take x_1.2.toNat x.2)→(decide (x_1.2<(↑x.2.length:Int))=true→0≤x_1.2∧x_1.2<(↑x.2.length:Int)∧True∧(aj .i64 (1+(ac (x.2.getD x_1.2.toNat 0) (aa x.1).1).1.1)∧aj .i64 (1+(ac (x.2.getD x_1.2.toNat 0) (aa x.1).1).1.1+(ac (x.2.getD x_1.2.toNat 0) (aa x.1).1).1.2.1))∧aj .i64 (x_1.1+af (ac (x.2.getD x_1.2.toNat 0) (aa x.1).1).1)∧aj .i64 (x_1.2+1)∧(0≤x_1.2+1∧x_1.2+1≤(↑x.2.length:Int)∧x_1.1+af (ac (x.2.getD x_1.2.toNat 0) (aa x.1).1).1=cS x.1 (List.take (x_1.2+1).toNat x.2))∧((↑x.2.length:Int) - (x_1.2+1)).toNat<((↑x.2.length:Int) - x_1.2).toNat)∧(decide (x_1.2<(↑x.2.length:Int))=false→x_1.1=cS x.1 x.2∧True)
theorem sz:oE:=by
 unfold oE
 intro ⟨a,l⟩ ⟨_,hbl,_⟩ _
 unfold aI at hbl
 simp only at hbl ⊢
 refine ⟨⟨by omega,by omega,by first | rfl | trivial⟩,fun ⟨n,i⟩ ⟨i0,i1,i2⟩=>⟨fun hlt=>?_,fun hge=>?_⟩⟩
 ·simp only at i0 i1 i2 hlt ⊢
  have hlt:=of_decide_eq_true hlt
  have ht:=bh (0:Int) i0 hlt
  have hr:=iN a (l.take i.toNat)
  rw [← i2,List.length_take] at hr
  have hl:af (ac (l.getD i.toNat 0) (aa a).1).1=x8 a (l.getD i.toNat 0):=rfl
  have hlr:=tp a (l.getD i.toNat 0)
  have hH:=bP (oW a (l.getD i.toNat 0))
  rw [ht,o6,← i2,hl]
  simp only [aj]
  refine ⟨i0,hlt,trivial,⟨⟨by omega,by omega⟩,by omega,by omega⟩,by omega,by omega,⟨by omega,by omega,by first | rfl | trivial⟩,by omega⟩
 ·simp only at i0 i1 i2 hge ⊢
  rw [bZ (of_decide_eq_false hge)] at i2
  exact ⟨i2,trivial⟩
theorem uS:uG.ok Try.prog 41:=bg (ann:=vl) (ak iz (ak fX aD)) Try.func41 (by kernel_rfl) sz
def vk:Nat→Option LoopGen
 | 3000089=>some dU
 | 3000092=>some dU
 | 9000000007=>some ng
 | 9000000014=>some so
 | 7=>some { rd:=[.dat 0 (.arr aM),.own 27 3 ty_I],A:=fun ((a,l):List Int×List Int)=>{ cs:=[.dat 10 ty_I,.dat 29 ty_I],inv:=fun ((n,i):Int×Int)=>0≤i∧i≤l.length∧n=cS a (l.take i.toNat),mu:=fun ((_,i):Int×Int)=>(l.length - i).toNat } }
 | _=>none
def uF:Spec:={ Ts:=[.arr aM,.arr ty_I],Rs:=[.dat ty_I,.dat ty_I],pre:=fun _=>True,F:=fun ((a,f):List Int×List Int)=>((if am a f≠0 then 0 else cS a (bi a f),am a f):Int×Int) }
def oD:Prop :=
  ∀ (x:List Int×List Int),((x.1.length * 8≤aI∧∀ (x_1:Int),x_1∈x.1→aj .u64 x_1)∧x.2.length * 8≤aI∧∀ (x_1:Int),x_1∈x.2→aj .i64 x_1)→True→True∧(decide ((ay x.1 x.2).2≠0)=true→((0:Int)=if am x.1 x.2≠0 then (0:Int) else cS x.1 (bi x.1 x.2))∧(ay x.1 x.2).2=am x.1 x.2∧True)∧(decide ((ay x.1 x.2).2≠0)=false→∀ (_:Array Value),True∧(decide ((ao x.1).2.2≠0)=true→((0:Int)≤0∧0≤(↑(ay x.1 x.2).1.length:Int)∧0=cS x.1 (List.take (Int.toNat 0) (ay x.1 x.2).1))∧∀ (x_1:Int×Int),0≤x_1.2∧x_1.2≤(↑(ay x.1 x.2).1.length:Int)∧x_1.1=cS x.1 (List.take x_1.2.toNat (ay x.1 x.2).1)→(decide (x_1.2<(↑(ay x.1 x.2).1.length:Int))=true→0≤x_1.2∧x_1.2<(↑(ay x.1 x.2).1.length:Int)∧x_1.2.toNat<(ay x.1 x.2).1.length∧∀ (_:Array Value),False)∧(decide (x_1.2<(↑(ay x.1 x.2).1.length:Int))=false→(x_1.1=if am x.1 x.2≠0 then (0:Int) else cS x.1 (bi x.1 x.2))∧0=am x.1 x.2∧True))∧(decide ((ao x.1).2.2≠0)=false→True∧((0:Int)≤0∧0≤(↑(aa x.1).1.length:Int)∧x.1=x.1∧((),([]:List Int)).2=ab (List.take (Int.toNat 0) (aa x.1).1)∧aQ ([]:List (Int×Int×Int×Int×Bool)) (List.drop (Int.toNat 0) (aa x.1).1)=bO (aa x.1).1)∧∀ (x_1:(List Int×Unit×List Int)×List (Int×Int×Int×Int×Bool)×Int),0≤x_1.2.2∧x_1.2.2≤(↑(aa x.1).1.length:Int)∧x_1.1.1=x.1∧x_1.1.2.2=ab (List.take x_1.2.2.toNat (aa x.1).1)∧aQ x_1.2.1 (List.drop x_1.2.2.toNat (aa x.1).1)=bO (aa x.1).1→(decide (x_1.2.2<(↑(aa x.1).1.length:Int))=true→0≤x_1.2.2∧x_1.2.2<(↑(aa x.1).1.length:Int)∧x_1.2.2.toNat<(aa x.1).1.length∧((!((aa x.1).1.getD x_1.2.2.toNat (0,0,0,0,false)).2.2.2.2)=true→(x_1.1.2.2.length+[((aa x.1).1.getD x_1.2.2.toNat (0,0,0,0,false)).1].length) * 8≤aI∧aj .i64 (x_1.2.2+1)∧(0≤x_1.2.2+1∧x_1.2.2+1≤(↑(aa x.1).1.length:Int)∧x_1.1.1=x.1∧((),x_1.1.2.2++[((aa x.1).1.getD x_1.2.2.toNat (0,0,0,0,false)).1]).2=ab (List.take (x_1.2.2+1).toNat (aa x.1).1)∧aQ (eB x_1.2.1 ((aa x.1).1.getD x_1.2.2.toNat (0,0,0,0,false)).1 ((aa x.1).1.getD x_1.2.2.toNat (0,0,0,0,false)).2) (List.drop (x_1.2.2+1).toNat (aa x.1).1)=bO (aa x.1).1)∧((↑(aa x.1).1.length:Int) - (x_1.2.2+1)).toNat<((↑(aa x.1).1.length:Int) - x_1.2.2).toNat)∧((!((aa x.1).1.getD x_1.2.2.toNat (0,0,0,0,false)).2.2.2.2)=false→aj .i64 (x_1.2.2+1)∧(0≤x_1.2.2+1∧x_1.2.2+1≤(↑(aa x.1).1.length:Int)∧x_1.1.1=x.1∧((),x_1.1.2.2).2=ab (List.take (x_1.2.2+1).toNat (aa x.1).1)∧aQ x_1.2.1 (List.drop (x_1.2.2+1).toNat (aa x.1).1)=bO (aa x.1).1)∧((↑(aa x.1).1.length:Int) - (x_1.2.2+1)).toNat<((↑(aa x.1).1.length:Int) - x_1.2.2).toNat))∧(decide (x_1.2.2<(↑(aa x.1).1.length:Int))=false→((0:Int)≤0∧0≤(↑(0:Nat):Int)∧((List.drop (Int.toNat 0) ([]:List Int)).all fun (x:Int)=>(ah x_1.2.1 x).isSome)=([]:List Int).all fun (x:Int)=>(ah x_1.2.1 x).isSome)∧∀ (x_2:Int),(0≤x_2∧x_2≤(↑(0:Nat):Int)∧((List.drop x_2.toNat ([]:List Int)).all fun (x:Int)=>(ah x_1.2.1 x).isSome)=([]:List Int).all fun (x:Int)=>(ah x_1.2.1 x).isSome)→(decide (x_2<0)=true→False)∧(decide (x_2<0)=false→((0:Int)≤0∧0≤(↑(ay x.1 x.2).1.length:Int)∧0=cS x.1 (List.take (Int.toNat 0) (ay x.1 x.2).1))∧∀ (x_3:Int×Int),0≤x_3.2∧x_3.2≤(↑(ay x.1 x.2).1.length:Int)∧x_3.1=cS x.1 (List.take x_3.2.toNat (ay x.1 x.2).1)→(decide (x_3.2<(↑(ay x.1 x.2).1.length:Int))=true→0≤x_3.2∧x_3.2<(↑(ay x.1 x.2).1.length:Int)∧x_3.2.toNat<(ay x.1 x.2).1.length∧∀ (_:Array Value),True∧aj .i64 (x_3.1+if ai ((ah x_1.2.1 ((ay x.1 x.2).1.getD x_3.2.toNat 0)).getD (0,0,0,false))=0 then af ((ah x_1.2.1 ((ay x.1 x.2).1.getD x_3.2.toNat 0)).getD (0,0,0,false)) else (0:Int))∧aj .i64 (x_3.2+1)∧(0≤x_3.2+1∧x_3.2+1≤(↑(ay x.1 x.2).1.length:Int)∧(x_3.1+if ai ((ah x_1.2.1 ((ay x.1 x.2).1.getD x_3.2.toNat 0)).getD (0,0,0,false))=0 then af ((ah x_1.2.1 ((ay x.1 x.2).1.getD x_3.2.toNat 0)).getD (0,0,0,false)) else (0:Int))=cS x.1 (List.take (x_3.2+1).toNat (ay x.1 x.2).1))∧((↑(ay x.1 x.2).1.length:Int) - (x_3.2+1)).toNat<((↑(ay x.1 x.2).1.length:Int) - x_3.2).toNat)∧(decide (x_3.2<(↑(ay x.1 x.2).1.length:Int))=false→(x_3.1=if am x.1 x.2≠0 then (0:Int) else cS x.1 (bi x.1 x.2))∧0=am x.1 x.2∧True)))))
theorem sy:oD:=by
 unfold oD
 intro ⟨a,f⟩ ⟨⟨hb,hw⟩,hbf,hf⟩ _
 unfold aI at hb hbf
 simp only at hb hw hbf hf ⊢
 have hre:(ay a f).2=am a f:=by
  unfold ay
  split
  ·rfl
  ·rename_i h; simp only; omega
 rw [hre]
 refine ⟨trivial,fun h=>?_,fun h=>?_⟩
 ·have h:=of_decide_eq_true h
  rw [if_pos h]
  exact ⟨rfl,rfl,trivial⟩
 have h:am a f=0:=by simpa using of_decide_eq_false h
 obtain ⟨hc,hfb⟩:=gb h
 have e1:ay a f=(bi a f,0):=by unfold ay; rw [h]; rfl
 have e2:(if am a f≠0 then (0:Int) else cS a (bi a f))=cS a (bi a f):=if_neg (by omega)
 rw [e1,e2,h]
 have hsl:=a6 a
 have hsp:=cU a
 have hget:=fun x=>kc (dk a) x
 obtain ⟨hal,_,_,hz,_,_,_⟩:=cM hc
 refine fun _=>⟨trivial,fun hn=>absurd hc (of_decide_eq_true hn),fun _=>⟨trivial,⟨by omega,by omega,trivial,rfl,rfl⟩,fun ⟨⟨a1,⟨⟩,out⟩,m,i⟩ ⟨i0,i1,i2,i3,i4⟩=>⟨fun hlt=>?_,fun hge=>?_⟩⟩⟩
 ·simp only at i0 i1 i2 i3 i4 hlt ⊢
  have hlt:=of_decide_eq_true hlt
  have hs:=hsp _ (bc ((0,0,0,0,false):aJ) i0 hlt)
  have ht:=bh ((0,0,0,0,false):aJ) i0 hlt
  rw [aS ((0,0,0,0,false):aJ) i0 hlt] at i4
  simp only [aQ] at i4
  have hol:out.length≤256:=by
   rw [i3]
   have:=a7 (List.take i.toNat (aa a).1)
   rw [List.length_take] at this
   omega
  rw [ht,ej,← i3]
  generalize (aa a).1.getD i.toNat (0,0,0,0,false)=s at *
  simp only [aj]
  refine ⟨i0,hlt,by omega,fun hf0=>?_,fun hf0=>?_⟩
  ·have hf0:¬ s.2.2.2.2=true:=by simpa using hf0
   have e:ab [s]=[s.1]:=by simp only [ab]; rw [if_neg hf0]
   rw [if_neg hf0] at i4
   rw [e]
   unfold aI
   simp only [List.length_singleton]
   exact ⟨by omega,by omega,⟨by omega,by omega,i2,trivial,i4⟩,by omega⟩
  ·have hf0:s.2.2.2.2=true:=by simpa using hf0
   have e:ab [s]=[]:=by simp only [ab]; rw [if_pos hf0]
   rw [if_pos hf0] at i4
   rw [e,List.append_nil]
   exact ⟨by omega,⟨by omega,by omega,i2,rfl,i4⟩,by omega⟩
 simp only at i0 i1 i2 i3 i4 hge ⊢
 have hge:=of_decide_eq_false hge
 rw [bo hge] at i4
 have i4:m=bO (aa a).1:=i4
 subst i4 i2
 refine ⟨⟨by omega,by omega,by first | rfl | trivial⟩,fun j ⟨j0,j1,_⟩=>⟨fun hlt=>absurd (of_decide_eq_true hlt) (by omega),fun _=>?_⟩⟩
 have hlen:=pP a1 f
 refine ⟨⟨by omega,by omega,by first | rfl | trivial⟩,fun ⟨n,k⟩ ⟨k0,k1,k2⟩=>⟨fun hlt=>?_,fun hge=>?_⟩⟩
 ·simp only at k0 k1 k2 hlt ⊢
  have hlt:=of_decide_eq_true hlt
  have ht:=bh (0:Int) k0 hlt
  have hib:=((jW hw hc hfb).1 (bc (0:Int) k0 hlt)).isB hw hc hfb
  have hr:=iN a1 ((bi a1 f).take k.toNat)
  rw [← k2,List.length_take] at hr
  rw [ht,o6,← k2]
  generalize (bi a1 f).getD k.toNat 0=x at *
  have hh:(ah (bO (aa a1).1) x).getD (0,0,0,false)=ft a1 x:=by rw [hget,if_pos hib]; rfl
  have hl:af (ft a1 x)=x8 a1 x:=rfl
  have hlr:=tp a1 x
  rw [hh,if_pos (ef hib).2.2.1,hl]
  simp only [aj]
  exact ⟨k0,hlt,by omega,fun _=>⟨trivial,⟨by omega,by omega⟩,⟨by omega,by omega⟩,⟨by omega,by omega,by first | rfl | trivial⟩,by omega⟩⟩
 ·simp only at k0 k1 k2 hge ⊢
  rw [bZ (of_decide_eq_false hge)] at k2
  exact ⟨k2,by first | rfl | trivial,trivial⟩
theorem uR:uF.ok Try.prog 39:=bg (ann:=vk) (ak rz (ak fW (ak eE (ak fZ aD)))) Try.func39 (by kernel_rfl) sy
end Go.Proofs.Ytcnoiiohmpgckaa
