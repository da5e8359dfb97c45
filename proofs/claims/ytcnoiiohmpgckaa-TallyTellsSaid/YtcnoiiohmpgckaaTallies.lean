
import Derived.Test.YtcnoiiohmpgckaaTallyPure
namespace Go.Proofs.Ytcnoiiohmpgckaa
open Go
set_option maxRecDepth 100000
set_option maxHeartbeats 1000000
abbrev wj:=List Int×Unit×Unit
def r6:LoopGen:={ rd:=[.own 32 158 cY,.dat 0 (.arr ci)],fz:=[23],A:=fun ((l,a):List aH×List Int)=>{ cs:=[.boxS 26 [.own 3 ty_I,.mpc 23,.mpc 24],.map 23 .i64 (.arr ty_I),.map 24 .i64 ty_I,.dat 34 ty_I],inv:=fun ((b,mr,mm,i):wj×List (Int×List Int)×List (Int×Int)×Int)=>0≤i∧i≤l.length∧b.1=ab (l.take i.toNat)∧(∀ x,ae mr x=if bp (ab (l.take i.toNat)) x=true then some (ay a x) else none)∧∀ x,(ae mm x).getD 0=((ab (l.take i.toNat)).flatMap (ay a)).count x,mu:=fun ((_,_,_,i):wj×List (Int×List Int)×List (Int×Int)×Int)=>(l.length - i).toNat } }
def r5:LoopGen:={ rd:=[.dat 69 (.arr ci),.mapS 23 .i64 (.arr ty_I) 3 ty_I,.map 24 .i64 ty_I],A:=fun ((rs,s0,mm0):List Int×(Int×List (Int×Option (List Int))×List Int)×List (Int×Int))=>{ cs:=[.mapS 23 .i64 (.arr ty_I) 3 ty_I,.map 24 .i64 ty_I,.dat 71 ty_I],inv:=fun ((s,mm,j):(Int×List (Int×Option (List Int))×List Int)×List (Int×Int)×Int)=>0≤j∧j≤rs.length∧s.1=s0.1∧s.2.1=s0.2.1∧s.2.2=s0.2.2++aY (rs.take j.toNat)∧∀ x,(ae mm x).getD 0=(ae mm0 x).getD 0+(aY (rs.take j.toNat)).count x,mu:=fun ((_,_,j):(Int×List (Int×Option (List Int))×List Int)×List (Int×Int)×Int)=>(rs.length - j).toNat } }
def rZ:LoopGen:={ rd:=[.dat 106 (.arr ty_I),.map 23 .i64 (.arr ty_I),.map 24 .i64 ty_I,.boxS 26 [.dat (.arr ty_I),.mpc 23,.mpc 24]],fz:=[26],A:=fun ((f,mr,mm0,b0):List Int×List (Int×List Int)×List (Int×Int)×wj)=>{ cs:=[.boxS 26 [.dat (.arr ty_I),.mpc 23,.mpc 24],.map 24 .i64 ty_I,.dat 108 ty_I],inv:=fun ((b,mm,i):wj×List (Int×Int)×Int)=>b=b0∧0≤i∧i≤f.length∧((f.drop i.toNat).all fun x=>(ae mr x).isSome)=(f.all fun x=>(ae mr x).isSome)∧∀ x,(ae mm x).getD 0=(ae mm0 x).getD 0+(f.take i.toNat).count x,mu:=fun ((_,_,i):wj×List (Int×Int)×Int)=>(f.length - i).toNat } }
def rV:Nat→Option LoopGen
 | 3000083=>some dP
 | 8400000007=>some r6
 | 8400000013=>some r5
 | 8400000021=>some rZ
 | 8404000010=>some dP
 | 8407000011=>some dP
 | 8404000011=>some dP
 | 8404000016=>some dP
 | 6=>some { rd:=[.dat 23 (.arr ty_I),.map 124000014 .i64 ty_I],A:=fun ((o,mm):List Int×List (Int×Int))=>{ cs:=[.own 8 3 ty_I,.dat 25 ty_I],inv:=fun ((out,i):List Int×Int)=>0≤i∧i≤o.length∧out=(o.take i.toNat).map fun x=>(ae mm x).getD 0,mu:=fun ((_,i):List Int×Int)=>(o.length - i).toNat } }
 | _=>none
def rh:Spec:={ Ts:=[.arr ci,.arr ty_I],Rs:=[.own 3 ty_I,.dat ty_I],pre:=fun ((_,f):List Int×List Int)=>f.length * 8≤140737488351232,F:=fun ((a,f):List Int×List Int)=>a8 a f }
def lz:Prop :=
  ∀ (x:List Int×List Int),((x.1.length * 8≤aL∧∀ (x_1:Int),x_1∈x.1→aj .u64 x_1)∧x.2.length * 8≤aL∧∀ (x_1:Int),x_1∈x.2→aj .i64 x_1)→x.2.length * 8≤140737488351232→∀ (_:Array Value),True∧(decide ((ao x.1).2.2≠0)=true→(decide ((ao x.1).2.2≠0)=true→([]:List Int)=(a8 x.1 x.2).1∧(ao x.1).2.2=(a8 x.1 x.2).2∧True)∧(decide ((ao x.1).2.2≠0)=false→False))∧(decide ((ao x.1).2.2≠0)=false→True∧((0:Int)≤0∧0≤(↑(aa x.1).1.length:Int)∧([]:List Int)=ab (List.take (Int.toNat 0) (aa x.1).1)∧(∀ (x_1:Int),ae ([]:List (Int×List Int)) x_1=if bp (ab (List.take (Int.toNat 0) (aa x.1).1)) x_1=true then some (ay x.1 x_1) else none)∧∀ (x_1:Int),(ae ([]:List (Int×Int)) x_1).getD 0=(↑(List.count x_1 (List.flatMap (ay x.1) (ab (List.take (Int.toNat 0) (aa x.1).1)))):Int))∧∀ (x_1:(List Int×Unit×Unit)×List (Int×List Int)×List (Int×Int)×Int),(0≤x_1.2.2.2∧x_1.2.2.2≤(↑(aa x.1).1.length:Int)∧x_1.1.1=ab (List.take x_1.2.2.2.toNat (aa x.1).1)∧(∀ (x_2:Int),ae x_1.2.1 x_2=if bp (ab (List.take x_1.2.2.2.toNat (aa x.1).1)) x_2=true then some (ay x.1 x_2) else none)∧∀ (x_2:Int),(ae x_1.2.2.1 x_2).getD 0=(↑(List.count x_2 (List.flatMap (ay x.1) (ab (List.take x_1.2.2.2.toNat (aa x.1).1)))):Int))→(decide (x_1.2.2.2<(↑(aa x.1).1.length:Int))=true→0≤x_1.2.2.2∧x_1.2.2.2<(↑(aa x.1).1.length:Int)∧x_1.2.2.2.toNat<(aa x.1).1.length∧(((aa x.1).1.getD x_1.2.2.2.toNat (0,0,0,0,false)).2.2.2.2=true→aj .i64 (x_1.2.2.2+1)∧(0≤x_1.2.2.2+1∧x_1.2.2.2+1≤(↑(aa x.1).1.length:Int)∧x_1.1.1=ab (List.take (x_1.2.2.2+1).toNat (aa x.1).1)∧(∀ (x_2:Int),ae x_1.2.1 x_2=if bp (ab (List.take (x_1.2.2.2+1).toNat (aa x.1).1)) x_2=true then some (ay x.1 x_2) else none)∧∀ (x_2:Int),(ae x_1.2.2.1 x_2).getD 0=(↑(List.count x_2 (List.flatMap (ay x.1) (ab (List.take (x_1.2.2.2+1).toNat (aa x.1).1)))):Int))∧((↑(aa x.1).1.length:Int) - (x_1.2.2.2+1)).toNat<((↑(aa x.1).1.length:Int) - x_1.2.2.2).toNat)∧(((aa x.1).1.getD x_1.2.2.2.toNat (0,0,0,0,false)).2.2.2.2=false→(x_1.1.1.length+[((aa x.1).1.getD x_1.2.2.2.toNat (0,0,0,0,false)).1].length) * 8≤aL∧aj .i64 (((aa x.1).1.getD x_1.2.2.2.toNat (0,0,0,0,false)).1+1)∧aj .i64 (((aa x.1).1.getD x_1.2.2.2.toNat (0,0,0,0,false)).1+1)∧aj .i64 (((aa x.1).1.getD x_1.2.2.2.toNat (0,0,0,0,false)).1+1+((aa x.1).1.getD x_1.2.2.2.toNat (0,0,0,0,false)).2.1)∧0≤((aa x.1).1.getD x_1.2.2.2.toNat (0,0,0,0,false)).1+1∧((aa x.1).1.getD x_1.2.2.2.toNat (0,0,0,0,false)).1+1≤((aa x.1).1.getD x_1.2.2.2.toNat (0,0,0,0,false)).1+1+((aa x.1).1.getD x_1.2.2.2.toNat (0,0,0,0,false)).2.1∧((aa x.1).1.getD x_1.2.2.2.toNat (0,0,0,0,false)).1+1+((aa x.1).1.getD x_1.2.2.2.toNat (0,0,0,0,false)).2.1≤(↑x.1.length:Int)∧((0:Int)≤0∧0≤(↑(List.drop (((aa x.1).1.getD x_1.2.2.2.toNat (0,0,0,0,false)).1+1).toNat (List.take (((aa x.1).1.getD x_1.2.2.2.toNat (0,0,0,0,false)).1+1+((aa x.1).1.getD x_1.2.2.2.toNat (0,0,0,0,false)).2.1).toNat x.1)).length:Int)∧((aa x.1).1.getD x_1.2.2.2.toNat (0,0,0,0,false)).1=((aa x.1).1.getD x_1.2.2.2.toNat (0,0,0,0,false)).1∧(aM (List.map (fun (e:Int×List Int)=>(e.1,some e.2)) x_1.2.1) ((aa x.1).1.getD x_1.2.2.2.toNat (0,0,0,0,false)).1 none,([]:List Int)).1=(aM (List.map (fun (e:Int×List Int)=>(e.1,some e.2)) x_1.2.1) ((aa x.1).1.getD x_1.2.2.2.toNat (0,0,0,0,false)).1 none,([]:List Int)).1∧(aM (List.map (fun (e:Int×List Int)=>(e.1,some e.2)) x_1.2.1) ((aa x.1).1.getD x_1.2.2.2.toNat (0,0,0,0,false)).1 none,([]:List Int)).2=(aM (List.map (fun (e:Int×List Int)=>(e.1,some e.2)) x_1.2.1) ((aa x.1).1.getD x_1.2.2.2.toNat (0,0,0,0,false)).1 none,([]:List Int)).2++aY (List.take (Int.toNat 0) (List.drop (((aa x.1).1.getD x_1.2.2.2.toNat (0,0,0,0,false)).1+1).toNat (List.take (((aa x.1).1.getD x_1.2.2.2.toNat (0,0,0,0,false)).1+1+((aa x.1).1.getD x_1.2.2.2.toNat (0,0,0,0,false)).2.1).toNat x.1)))∧∀ (x_2:Int),(ae x_1.2.2.1 x_2).getD 0=(ae x_1.2.2.1 x_2).getD 0+(↑(List.count x_2 (aY (List.take (Int.toNat 0) (List.drop (((aa x.1).1.getD x_1.2.2.2.toNat (0,0,0,0,false)).1+1).toNat (List.take (((aa x.1).1.getD x_1.2.2.2.toNat (0,0,0,0,false)).1+1+((aa x.1).1.getD x_1.2.2.2.toNat (0,0,0,0,false)).2.1).toNat x.1))))):Int))∧∀ (x_2:(Int×List (Int×Option (List Int))×List Int)×List (Int×Int)×Int),(0≤x_2.2.2∧x_2.2.2≤(↑(List.drop (((aa x.1).1.getD x_1.2.2.2.toNat (0,0,0,0,false)).1+1).toNat (List.take (((aa x.1).1.getD x_1.2.2.2.toNat (0,0,0,0,false)).1+1+((aa x.1).1.getD x_1.2.2.2.toNat (0,0,0,0,false)).2.1).toNat x.1)).length:Int)∧x_2.1.1=((aa x.1).1.getD x_1.2.2.2.toNat (0,0,0,0,false)).1∧x_2.1.2.1=(aM (List.map (fun (e:Int×List Int)=>(e.1,some e.2)) x_1.2.1) ((aa x.1).1.getD x_1.2.2.2.toNat (0,0,0,0,false)).1 none,([]:List Int)).1∧x_2.1.2.2=(aM (List.map (fun (e:Int×List Int)=>(e.1,some e.2)) x_1.2.1) ((aa x.1).1.getD x_1.2.2.2.toNat (0,0,0,0,false)).1 none,([]:List Int)).2++aY (List.take x_2.2.2.toNat (List.drop (((aa x.1).1.getD x_1.2.2.2.toNat (0,0,0,0,false)).1+1).toNat (List.take (((aa x.1).1.getD x_1.2.2.2.toNat (0,0,0,0,false)).1+1+((aa x.1).1.getD x_1.2.2.2.toNat (0,0,0,0,false)).2.1).toNat x.1)))∧∀ (x_3:Int),(ae x_2.2.1 x_3).getD 0=(ae x_1.2.2.1 x_3).getD 0+(↑(List.count x_3 (aY (List.take x_2.2.2.toNat (List.drop (((aa x.1).1.getD x_1.2.2.2.toNat (0,0,0,0,false)).1+1).toNat (List.take (((aa x.1).1.getD x_1.2.2.2.toNat (0,0,0,0,false)).1+1+((aa x.1).1.getD x_1.2.2.2.toNat (0,0,0,0,false)).2.1).toNat x.1))))):Int))→(decide (x_2.2.2<(↑(List.drop (((aa x.1).1.getD x_1.2.2.2.toNat (0,0,0,0,false)).1+1).toNat (List.take (((aa x.1).1.getD x_1.2.2.2.toNat (0,0,0,0,false)).1+1+((aa x.1).1.getD x_1.2.2.2.toNat (0,0,0,0,false)).2.1).toNat x.1)).length:Int))=true→0≤x_2.2.2∧x_2.2.2<(↑(List.drop (((aa x.1).1.getD x_1.2.2.2.toNat (0,0,0,0,false)).1+1).toNat (List.take (((aa x.1).1.getD x_1.2.2.2.toNat (0,0,0,0,false)).1+1+((aa x.1).1.getD x_1.2.2.2.toNat (0,0,0,0,false)).2.1).toNat x.1)).length:Int)∧(decide ((List.drop (((aa x.1).1.getD x_1.2.2.2.toNat (0,0,0,0,false)).1+1).toNat (List.take (((aa x.1).1.getD x_1.2.2.2.toNat (0,0,0,0,false)).1+1+((aa x.1).1.getD x_1.2.2.2.toNat (0,0,0,0,false)).2.1).toNat x.1)).getD x_2.2.2.toNat (0:Int)≠0)=true→((aa x.1).1.getD x_1.2.2.2.toNat (0,0,0,0,false)).1=x_2.1.1∧aj .i64 (IntKind.i64.wrap ((List.drop (((aa x.1).1.getD x_1.2.2.2.toNat (0,0,0,0,false)).1+1).toNat (List.take (((aa x.1).1.getD x_1.2.2.2.toNat (0,0,0,0,false)).1+1+((aa x.1).1.getD x_1.2.2.2.toNat (0,0,0,0,false)).2.1).toNat x.1)).getD x_2.2.2.toNat 0) - 1)∧(x_2.1.2.2.length+[IntKind.i64.wrap ((List.drop (((aa x.1).1.getD x_1.2.2.2.toNat (0,0,0,0,false)).1+1).toNat (List.take (((aa x.1).1.getD x_1.2.2.2.toNat (0,0,0,0,false)).1+1+((aa x.1).1.getD x_1.2.2.2.toNat (0,0,0,0,false)).2.1).toNat x.1)).getD x_2.2.2.toNat 0) - 1].length) * 8≤aL∧((aa x.1).1.getD x_1.2.2.2.toNat (0,0,0,0,false)).1=((aa x.1).1.getD x_1.2.2.2.toNat (0,0,0,0,false)).1∧((aa x.1).1.getD x_1.2.2.2.toNat (0,0,0,0,false)).1=x_2.1.1∧aj .i64 (IntKind.i64.wrap ((List.drop (((aa x.1).1.getD x_1.2.2.2.toNat (0,0,0,0,false)).1+1).toNat (List.take (((aa x.1).1.getD x_1.2.2.2.toNat (0,0,0,0,false)).1+1+((aa x.1).1.getD x_1.2.2.2.toNat (0,0,0,0,false)).2.1).toNat x.1)).getD x_2.2.2.toNat 0) - 1)∧aj .i64 ((ae x_2.2.1 (IntKind.i64.wrap ((List.drop (((aa x.1).1.getD x_1.2.2.2.toNat (0,0,0,0,false)).1+1).toNat (List.take (((aa x.1).1.getD x_1.2.2.2.toNat (0,0,0,0,false)).1+1+((aa x.1).1.getD x_1.2.2.2.toNat (0,0,0,0,false)).2.1).toNat x.1)).getD x_2.2.2.toNat 0) - 1)).getD 0+1)∧aj .i64 (x_2.2.2+1)∧(0≤x_2.2.2+1∧x_2.2.2+1≤(↑(List.drop (((aa x.1).1.getD x_1.2.2.2.toNat (0,0,0,0,false)).1+1).toNat (List.take (((aa x.1).1.getD x_1.2.2.2.toNat (0,0,0,0,false)).1+1+((aa x.1).1.getD x_1.2.2.2.toNat (0,0,0,0,false)).2.1).toNat x.1)).length:Int)∧x_2.1.1=((aa x.1).1.getD x_1.2.2.2.toNat (0,0,0,0,false)).1∧(x_2.1.2.1,x_2.1.2.2++[IntKind.i64.wrap ((List.drop (((aa x.1).1.getD x_1.2.2.2.toNat (0,0,0,0,false)).1+1).toNat (List.take (((aa x.1).1.getD x_1.2.2.2.toNat (0,0,0,0,false)).1+1+((aa x.1).1.getD x_1.2.2.2.toNat (0,0,0,0,false)).2.1).toNat x.1)).getD x_2.2.2.toNat 0) - 1]).1=(aM (List.map (fun (e:Int×List Int)=>(e.1,some e.2)) x_1.2.1) ((aa x.1).1.getD x_1.2.2.2.toNat (0,0,0,0,false)).1 none,([]:List Int)).1∧(x_2.1.2.1,x_2.1.2.2++[IntKind.i64.wrap ((List.drop (((aa x.1).1.getD x_1.2.2.2.toNat (0,0,0,0,false)).1+1).toNat (List.take (((aa x.1).1.getD x_1.2.2.2.toNat (0,0,0,0,false)).1+1+((aa x.1).1.getD x_1.2.2.2.toNat (0,0,0,0,false)).2.1).toNat x.1)).getD x_2.2.2.toNat 0) - 1]).2=(aM (List.map (fun (e:Int×List Int)=>(e.1,some e.2)) x_1.2.1) ((aa x.1).1.getD x_1.2.2.2.toNat (0,0,0,0,false)).1 none,([]:List Int)).2++aY (List.take (x_2.2.2+1).toNat (List.drop (((aa x.1).1.getD x_1.2.2.2.toNat (0,0,0,0,false)).1+1).toNat (List.take (((aa x.1).1.getD x_1.2.2.2.toNat (0,0,0,0,false)).1+1+((aa x.1).1.getD x_1.2.2.2.toNat (0,0,0,0,false)).2.1).toNat x.1)))∧∀ (x_3:Int),(ae (aM x_2.2.1 (IntKind.i64.wrap ((List.drop (((aa x.1).1.getD x_1.2.2.2.toNat (0,0,0,0,false)).1+1).toNat (List.take (((aa x.1).1.getD x_1.2.2.2.toNat (0,0,0,0,false)).1+1+((aa x.1).1.getD x_1.2.2.2.toNat (0,0,0,0,false)).2.1).toNat x.1)).getD x_2.2.2.toNat 0) - 1) ((ae x_2.2.1 (IntKind.i64.wrap ((List.drop (((aa x.1).1.getD x_1.2.2.2.toNat (0,0,0,0,false)).1+1).toNat (List.take (((aa x.1).1.getD x_1.2.2.2.toNat (0,0,0,0,false)).1+1+((aa x.1).1.getD x_1.2.2.2.toNat (0,0,0,0,false)).2.1).toNat x.1)).getD x_2.2.2.toNat 0) - 1)).getD 0+1)) x_3).getD 0=(ae x_1.2.2.1 x_3).getD 0+(↑(List.count x_3 (aY (List.take (x_2.2.2+1).toNat (List.drop (((aa x.1).1.getD x_1.2.2.2.toNat (0,0,0,0,false)).1+1).toNat (List.take (((aa x.1).1.getD x_1.2.2.2.toNat (0,0,0,0,false)).1+1+((aa x.1).1.getD x_1.2.2.2.toNat (0,0,0,0,false)).2.1).toNat x.1))))):Int))∧((↑(List.drop (((aa x.1).1.getD x_1.2.2.2.toNat (0,0,0,0,false)).1+1).toNat (List.take (((aa x.1).1.getD x_1.2.2.2.toNat (0,0,0,0,false)).1+1+((aa x.1).1.getD x_1.2.2.2.toNat (0,0,0,0,false)).2.1).toNat x.1)).length:Int) - (x_2.2.2+1)).toNat<((↑(List.drop (((aa x.1).1.getD x_1.2.2.2.toNat (0,0,0,0,false)).1+1).toNat (List.take (((aa x.1).1.getD x_1.2.2.2.toNat (0,0,0,0,false)).1+1+((aa x.1).1.getD x_1.2.2.2.toNat (0,0,0,0,false)).2.1).toNat x.1)).length:Int) - x_2.2.2).toNat)∧(decide ((List.drop (((aa x.1).1.getD x_1.2.2.2.toNat (0,0,0,0,false)).1+1).toNat (List.take (((aa x.1).1.getD x_1.2.2.2.toNat (0,0,0,0,false)).1+1+((aa x.1).1.getD x_1.2.2.2.toNat (0,0,0,0,false)).2.1).toNat x.1)).getD x_2.2.2.toNat (0:Int)≠0)=false→aj .i64 (x_2.2.2+1)∧(0≤x_2.2.2+1∧x_2.2.2+1≤(↑(List.drop (((aa x.1).1.getD x_1.2.2.2.toNat (0,0,0,0,false)).1+1).toNat (List.take (((aa x.1).1.getD x_1.2.2.2.toNat (0,0,0,0,false)).1+1+((aa x.1).1.getD x_1.2.2.2.toNat (0,0,0,0,false)).2.1).toNat x.1)).length:Int)∧x_2.1.1=((aa x.1).1.getD x_1.2.2.2.toNat (0,0,0,0,false)).1∧x_2.1.2.1=(aM (List.map (fun (e:Int×List Int)=>(e.1,some e.2)) x_1.2.1) ((aa x.1).1.getD x_1.2.2.2.toNat (0,0,0,0,false)).1 none,([]:List Int)).1∧x_2.1.2.2=(aM (List.map (fun (e:Int×List Int)=>(e.1,some e.2)) x_1.2.1) ((aa x.1).1.getD x_1.2.2.2.toNat (0,0,0,0,false)).1 none,([]:List Int)).2++aY (List.take (x_2.2.2+1).toNat (List.drop (((aa x.1).1.getD x_1.2.2.2.toNat (0,0,0,0,false)).1+1).toNat (List.take (((aa x.1).1.getD x_1.2.2.2.toNat (0,0,0,0,false)).1+1+((aa x.1).1.getD x_1.2.2.2.toNat (0,0,0,0,false)).2.1).toNat x.1)))∧∀ (x_3:Int),(ae x_2.2.1 x_3).getD 0=(ae x_1.2.2.1 x_3).getD 0+(↑(List.count x_3 (aY (List.take (x_2.2.2+1).toNat (List.drop (((aa x.1).1.getD x_1.2.2.2.toNat (0,0,0,0,false)).1+1).toNat (List.take (((aa x.1).1.getD x_1.2.2.2.toNat (0,0,0,0,false)).1+1+((aa x.1).1.getD x_1.2.2.2.toNat (0,0,0,0,false)).2.1).toNat x.1))))):Int))∧((↑(List.drop (((aa x.1).1.getD x_1.2.2.2.toNat (0,0,0,0,false)).1+1).toNat (List.take (((aa x.1).1.getD x_1.2.2.2.toNat (0,0,0,0,false)).1+1+((aa x.1).1.getD x_1.2.2.2.toNat (0,0,0,0,false)).2.1).toNat x.1)).length:Int) - (x_2.2.2+1)).toNat<((↑(List.drop (((aa x.1).1.getD x_1.2.2.2.toNat (0,0,0,0,false)).1+1).toNat (List.take (((aa x.1).1.getD x_1.2.2.2.toNat (0,0,0,0,false)).1+1+((aa x.1).1.getD x_1.2.2.2.toNat (0,0,0,0,false)).2.1).toNat x.1)).length:Int) - x_2.2.2).toNat))∧(decide (x_2.2.2<(↑(List.drop (((aa x.1).1.getD x_1.2.2.2.toNat (0,0,0,0,false)).1+1).toNat (List.take (((aa x.1).1.getD x_1.2.2.2.toNat (0,0,0,0,false)).1+1+((aa x.1).1.getD x_1.2.2.2.toNat (0,0,0,0,false)).2.1).toNat x.1)).length:Int))=false→aj .i64 (x_1.2.2.2+1)∧(0≤x_1.2.2.2+1∧x_1.2.2.2+1≤(↑(aa x.1).1.length:Int)∧x_1.1.1++[((aa x.1).1.getD x_1.2.2.2.toNat (0,0,0,0,false)).1]=ab (List.take (x_1.2.2.2+1).toNat (aa x.1).1)∧(∀ (x_3:Int),ae (List.map (fun (e:Int×Option (List Int))=>(e.1,e.2.getD x_2.1.2.2)) x_2.1.2.1) x_3=if bp (ab (List.take (x_1.2.2.2+1).toNat (aa x.1).1)) x_3=true then some (ay x.1 x_3) else none)∧∀ (x_3:Int),(ae x_2.2.1 x_3).getD 0=(↑(List.count x_3 (List.flatMap (ay x.1) (ab (List.take (x_1.2.2.2+1).toNat (aa x.1).1)))):Int))∧((↑(aa x.1).1.length:Int) - (x_1.2.2.2+1)).toNat<((↑(aa x.1).1.length:Int) - x_1.2.2.2).toNat)))∧(decide (x_1.2.2.2<(↑(aa x.1).1.length:Int))=false→((x_1.1.1,(),())=(x_1.1.1,(),())∧(0:Int)≤0∧0≤(↑x.2.length:Int)∧(((List.drop (Int.toNat 0) x.2).all fun (x:Int)=>(ae x_1.2.1 x).isSome)=x.2.all fun (x:Int)=>(ae x_1.2.1 x).isSome)∧∀ (x_2:Int),(ae x_1.2.2.1 x_2).getD 0=(ae x_1.2.2.1 x_2).getD 0+(↑(List.count x_2 (List.take (Int.toNat 0) x.2)):Int))∧∀ (x_2:(List Int×Unit×Unit)×List (Int×Int)×Int),(x_2.1=(x_1.1.1,(),())∧0≤x_2.2.2∧x_2.2.2≤(↑x.2.length:Int)∧(((List.drop x_2.2.2.toNat x.2).all fun (x:Int)=>(ae x_1.2.1 x).isSome)=x.2.all fun (x:Int)=>(ae x_1.2.1 x).isSome)∧∀ (x_3:Int),(ae x_2.2.1 x_3).getD 0=(ae x_1.2.2.1 x_3).getD 0+(↑(List.count x_3 (List.take x_2.2.2.toNat x.2)):Int))→(decide (x_2.2.2<(↑x.2.length:Int))=true→0≤x_2.2.2∧x_2.2.2<(↑x.2.length:Int)∧((!(ae x_1.2.1 (x.2.getD x_2.2.2.toNat 0)).isSome)=true→(decide ((5:Int)≠0)=true→([]:List Int)=(a8 x.1 x.2).1∧5=(a8 x.1 x.2).2∧True)∧(decide ((5:Int)≠0)=false→False))∧((!(ae x_1.2.1 (x.2.getD x_2.2.2.toNat 0)).isSome)=false→aj .i64 ((ae x_2.2.1 (x.2.getD x_2.2.2.toNat 0)).getD 0+1)∧aj .i64 (x_2.2.2+1)∧((x_2.1.1,(),())=(x_1.1.1,(),())∧0≤x_2.2.2+1∧x_2.2.2+1≤(↑x.2.length:Int)∧(((List.drop (x_2.2.2+1).toNat x.2).all fun (x:Int)=>(ae x_1.2.1 x).isSome)=x.2.all fun (x:Int)=>(ae x_1.2.1 x).isSome)∧∀ (x_3:Int),(ae (aM x_2.2.1 (x.2.getD x_2.2.2.toNat 0) ((ae x_2.2.1 (x.2.getD x_2.2.2.toNat 0)).getD 0+1)) x_3).getD 0=(ae x_1.2.2.1 x_3).getD 0+(↑(List.count x_3 (List.take (x_2.2.2+1).toNat x.2)):Int))∧((↑x.2.length:Int) - (x_2.2.2+1)).toNat<((↑x.2.length:Int) - x_2.2.2).toNat))∧(decide (x_2.2.2<(↑x.2.length:Int))=false→(decide ((0:Int)≠0)=true→([]:List Int)=(a8 x.1 x.2).1∧0=(a8 x.1 x.2).2∧True)∧(decide ((0:Int)≠0)=false→((0:Int)≤0∧0≤(↑x_2.1.1.length:Int)∧([]:List Int)=List.map (fun (x:Int)=>(ae x_2.2.1 x).getD 0) (List.take (Int.toNat 0) x_2.1.1))∧∀ (x_3:List Int×Int),0≤x_3.2∧x_3.2≤(↑x_2.1.1.length:Int)∧x_3.1=List.map (fun (x:Int)=>(ae x_2.2.1 x).getD 0) (List.take x_3.2.toNat x_2.1.1)→(decide (x_3.2<(↑x_2.1.1.length:Int))=true→0≤x_3.2∧x_3.2<(↑x_2.1.1.length:Int)∧(x_3.1.length+[(ae x_2.2.1 (x_2.1.1.getD x_3.2.toNat 0)).getD 0].length) * 8≤aL∧aj .i64 (x_3.2+1)∧(0≤x_3.2+1∧x_3.2+1≤(↑x_2.1.1.length:Int)∧x_3.1++[(ae x_2.2.1 (x_2.1.1.getD x_3.2.toNat 0)).getD 0]=List.map (fun (x:Int)=>(ae x_2.2.1 x).getD 0) (List.take (x_3.2+1).toNat x_2.1.1))∧((↑x_2.1.1.length:Int) - (x_3.2+1)).toNat<((↑x_2.1.1.length:Int) - x_3.2).toNat)∧(decide (x_3.2<(↑x_2.1.1.length:Int))=false→x_3.1=(a8 x.1 x.2).1∧0=(a8 x.1 x.2).2∧True)))))
theorem pE:lz:=by
 unfold lz
 intro ⟨a,f⟩ ⟨⟨hb,hw⟩,hbf,hf⟩ hroom tm
 unfold aL at hb hbf
 dsimp only at hb hw hbf hf hroom ⊢
 refine ⟨trivial,fun hc=>⟨fun _=>?_,fun hn=>by rw [hc] at hn; cases hn⟩,fun hc=>?_⟩
 ·have hc:=of_decide_eq_true hc
  have e:an a f=(ao a).2.2:=by unfold an; rw [if_pos hc]
  have e2:a8 a f=([],(ao a).2.2):=by unfold a8; rw [e,if_pos hc]
  rw [e2]
  exact ⟨rfl,rfl,trivial⟩
 have hc:(ao a).2.2=0:=by simpa using of_decide_eq_false hc
 obtain ⟨hal,_,_,hz,_,_,_⟩:=dY hc
 have hsl:=aR a
 have hbl:=aG (aa a).1
 refine ⟨trivial,⟨by omega,by omega,rfl,fun _=>rfl,fun _=>rfl⟩,fun ⟨⟨o,⟨⟩,⟨⟩⟩,mr,mm,i⟩ ⟨i0,i1,i2,i3,i4⟩=>⟨fun hlt=>?_,fun hge=>?_⟩⟩
 ·dsimp only at i0 i1 i2 i3 i4 ⊢
  have hlt:i<((aa a).1.length:Int):=of_decide_eq_true hlt
  have hm:=bk ((0,0,0,0,false):aH) i0 hlt
  have ht:=aI ((0,0,0,0,false):aH) i0 hlt
  have hol:o.length≤256:=by
   rw [i2]
   have:=aG (List.take i.toNat (aa a).1)
   rw [List.length_take] at this
   omega
  have hfl:=b9 a hal o
  rw [ht,dj,← i2]
  rw [← i2] at i3 i4
  generalize (aa a).1.getD i.toNat (0,0,0,0,false)=s at *
  refine ⟨i0,hlt,by omega,fun hf0=>?_,fun hf0=>?_⟩
  ·have e:ab [s]=[]:=by simp only [ab]; rw [if_pos hf0]
   rw [e,List.append_nil]
   exact ⟨by simp only [aj]; omega,⟨by omega,by omega,rfl,i3,i4⟩,by omega⟩
  ·have e:ab [s]=[s.1]:=by simp only [ab]; rw [if_neg (by rw [hf0]; simp)]
   obtain ⟨hib,he⟩:=gk hm hf0
   obtain ⟨l1,_,l3,l4,l5,l6⟩:=ef hib
   have hrf:=dr hw hc _ (er hib).1
   have hrs:List.drop (s.1+1).toNat (List.take (s.1+1+(mG a s.1).1).toNat a)=ch a s.1:=rfl
   have hwr:∀ v∈ch a s.1,IntKind.i64.wrap v=v∧0≤v∧v≤256:=fun v hv=>by
    rcases hrf v hv with e | ⟨h1,h2,_⟩
    ·subst e; exact ⟨eo (by omega) (by omega),by omega,by omega⟩
    ·exact ⟨eo (by omega) (by omega),by omega,by omega⟩
   rw [e,he,hrs]
   have hO:ay a s.1=aY (ch a s.1):=rfl
   generalize hrs0:ch a s.1=rs at *
   generalize hx0:s.1=x at *
   simp only [aj]
   refine ⟨by unfold aL; rw [List.length_singleton]; omega,by omega,by omega,by omega,by omega,by omega,by omega,⟨by omega,by omega,trivial,trivial,rfl,fun _=>by simp [aY]⟩,fun ⟨⟨x0,m,ys⟩,mm2,j⟩ ⟨j0,j1,j2,j3,j4,j5⟩=>⟨fun hj=>?_,fun hj=>?_⟩⟩
   ·dsimp only at j0 j1 j2 j3 j4 j5 ⊢
    have hj:j<(rs.length:Int):=of_decide_eq_true hj
    have ht2:=aI (0:Int) j0 hj
    have hv:=bk (0:Int) j0 hj
    have hcl:=List.count_le_length (a:=rs.getD j.toNat 0 - 1) (l:=aY (rs.take j.toNat))
    have hcl2:=List.count_le_length (a:=rs.getD j.toNat 0 - 1) (l:=o.flatMap (ay a))
    have hql:(aY (rs.take j.toNat)).length≤rs.length:=by
     unfold aY
     rw [List.length_map]
     refine Nat.le_trans (List.length_filter_le _ _) ?_
     rw [List.length_take]
     omega
    rw [ht2,ic]
    have q5:=j5 (rs.getD j.toNat 0 - 1)
    have q4:=i4 (rs.getD j.toNat 0 - 1)
    generalize hv0:rs.getD j.toNat 0=v at *
    obtain ⟨w1,w2,w3⟩:=hwr v hv
    rw [w1]
    have hys:ys.length≤256:=by rw [j4]; simp only [List.nil_append]; omega
    refine ⟨j0,hj,fun hne=>?_,fun hne=>?_⟩
    ·have hne:=of_decide_eq_true hne
     rw [if_neg hne]
     refine ⟨j2.symm,by omega,by unfold aL; rw [List.length_singleton]; omega,trivial,j2.symm,by omega,by omega,by omega,⟨by omega,by omega,j2,j3,?_,fB j5⟩,by omega⟩
     rw [j4,List.nil_append]
     rfl
    ·have hne:v=0:=by simpa using of_decide_eq_false hne
     rw [if_pos hne,List.append_nil]
     exact ⟨by omega,⟨by omega,by omega,j2,j3,j4,j5⟩,by omega⟩
   ·dsimp only at j0 j1 j2 j3 j4 j5 ⊢
    have hj:¬ j<(rs.length:Int):=of_decide_eq_false hj
    rw [aX hj] at j4 j5
    have hys:ys=ay a x:=by rw [j4,List.nil_append]; exact hO.symm
    have hcm:=f0 x ys mr
    have j3:m=aM (mr.map fun e=>(e.1,some e.2)) x none:=j3
    refine ⟨by omega,⟨by omega,by omega,trivial,fun z=>?_,fun z=>?_⟩,by omega⟩
    ·have e3:List.map (fun (e:Int×Option (List Int))=>(e.1,e.2.getD ys)) m=aM mr x (ay a x):=by rw [j3,hcm,hys]
     exact (congrArg (fun l=>ae l z) e3).trans (lx i3 z)
    ·rw [j5 z,i4 z,← hO,List.flatMap_append,List.count_append]
     simp
 dsimp only at i0 i1 i2 i3 i4 ⊢
 have hge:¬ i<((aa a).1.length:Int):=of_decide_eq_false hge
 rw [aX hge] at i2 i3 i4
 have hsome:∀ x,(ae mr x).isSome=isB (aa a).1 x:=fun x=>by rw [i3 x,aS]; cases isB (aa a).1 x <;> rfl
 have hol:o.length≤256:=by rw [i2]; omega
 have hfl:=b9 a hal (ab (aa a).1)
 refine ⟨⟨rfl,by omega,by omega,rfl,fun _=>by simp⟩,fun ⟨b,mm2,j⟩ ⟨j4,j0,j1,j2,j3⟩=>⟨fun hlt=>?_,fun hge=>?_⟩⟩
 ·dsimp only at j0 j1 j2 j3 j4 ⊢
  subst j4
  have hlt:j<(f.length:Int):=of_decide_eq_true hlt
  have ht:=aI (0:Int) j0 hlt
  have hcl:=List.count_le_length (a:=f.getD j.toNat 0) (l:=f.take j.toNat)
  have hcl2:=List.count_le_length (a:=f.getD j.toNat 0) (l:=(ab (aa a).1).flatMap (ay a))
  rw [List.length_take] at hcl
  have q3:=j3 (f.getD j.toNat 0)
  have q4:=i4 (f.getD j.toNat 0)
  have hs:=hsome (f.getD j.toNat 0)
  simp only [hsome] at j2 ⊢
  rw [aV (0:Int) j0 hlt,List.all_cons] at j2
  rw [ht]
  refine ⟨j0,hlt,fun hn=>⟨fun _=>?_,fun h=>by simp at h⟩,fun hn=>⟨by simp only [aj]; omega,by simp only [aj]; omega,⟨trivial,by omega,by omega,?_,fB j3⟩,by omega⟩⟩
  ·have hn:isB (aa a).1 (f.getD j.toNat 0)=false:=by simpa using hn
   rw [hn,Bool.false_and] at j2
   have e:an a f=5:=by unfold an; rw [if_neg (by omega),← j2]; rfl
   have e2:a8 a f=([],5):=by unfold a8; rw [e]; rfl
   rw [e2]
   exact ⟨rfl,rfl,trivial⟩
  ·have hn:isB (aa a).1 (f.getD j.toNat 0)=true:=by simpa using hn
   rw [hn,Bool.true_and] at j2
   exact j2
 dsimp only at j0 j1 j2 j3 j4 ⊢
 subst j4
 have hge:¬ j<(f.length:Int):=of_decide_eq_false hge
 simp only [hsome] at j2
 rw [br hge,List.all_nil] at j2
 rw [aX hge] at j3
 have hfb:∀ x∈f,isB (aa a).1 x=true:=List.all_eq_true.1 j2.symm
 have e0:an a f=0:=ev hc hfb
 have hcnt:∀ x,(ae mm2 x).getD 0=(aQ a f (ab (aa a).1) x:Int):=fun x=>by
  rw [j3 x,i4 x]
  unfold aQ
  omega
 refine ⟨fun h=>by simp at h,fun _=>?_⟩
 have hD:a8 a f=(o.map fun x=>(ae mm2 x).getD 0,0):=by
  unfold a8
  rw [if_neg (by omega),i2]
  congr 1
  exact List.map_congr_left fun x _=>(hcnt x).symm
 rw [hD]
 refine ⟨⟨by omega,by omega,rfl⟩,fun ⟨out,i⟩ ⟨i0,i1,i5⟩=>⟨fun hlt=>?_,fun hge=>?_⟩⟩
 ·dsimp only at i0 i1 i5 ⊢
  have hlt:i<(o.length:Int):=of_decide_eq_true hlt
  have hl:out.length≤256:=by rw [i5,List.length_map,List.length_take]; omega
  rw [aI (0:Int) i0 hlt,List.map_append,← i5]
  exact ⟨i0,hlt,by unfold aL; rw [List.length_singleton]; omega,by simp only [aj]; omega,⟨by omega,by omega,rfl⟩,by omega⟩
 ·dsimp only at i0 i1 i5 ⊢
  rw [aX (of_decide_eq_false hge)] at i5
  exact ⟨i5,rfl,trivial⟩
theorem rt:rh.ok Try.prog 27:=bJ (ann:=rV) (ai eq (ai dI aJ)) Try.func27 (by kernel_rfl) pE
def tx:Nat→Option LoopGen
 | 3000083=>some dP
 | 8400000007=>some r6
 | 8400000013=>some r5
 | 8400000021=>some rZ
 | 8404000010=>some dP
 | 8407000011=>some dP
 | 8404000011=>some dP
 | 8404000016=>some dP
 | 7=>some { rd:=[.dat 31 (.arr ty_I),.map 124000016 .i64 ty_I,.own 8 3 ty_I],A:=fun ((o,mm,live):List Int×List (Int×Int)×List Int)=>{ cs:=[.own 10 3 ty_I,.dat 33 ty_I],inv:=fun ((out,i):List Int×Int)=>0≤i∧i≤o.length∧out=(o.take i.toNat).filter fun x=>decide (0<(ae mm x).getD 0)&&!bp live x,mu:=fun ((_,i):List Int×Int)=>(o.length - i).toNat } }
 | _=>none
def sO:Spec:={ Ts:=[.arr ci,.arr ty_I],Rs:=[.own 3 ty_I,.dat ty_I],pre:=fun ((_,f):List Int×List Int)=>f.length * 8≤140737488351232,F:=fun ((a,f):List Int×List Int)=>bM a f }
def nH:Prop :=
  ∀ (x:List Int×List Int),((x.1.length * 8≤aL∧∀ (x_1:Int),x_1∈x.1→aj .u64 x_1)∧x.2.length * 8≤aL∧∀ (x_1:Int),x_1∈x.2→aj .i64 x_1)→x.2.length * 8≤140737488351232→∀ (_:Array Value),True∧(decide ((ao x.1).2.2≠0)=true→(decide ((ao x.1).2.2≠0)=true→([]:List Int)=(bM x.1 x.2).1∧(ao x.1).2.2=(bM x.1 x.2).2∧True)∧(decide ((ao x.1).2.2≠0)=false→True∧False))∧(decide ((ao x.1).2.2≠0)=false→True∧((0:Int)≤0∧0≤(↑(aa x.1).1.length:Int)∧([]:List Int)=ab (List.take (Int.toNat 0) (aa x.1).1)∧(∀ (x_1:Int),ae ([]:List (Int×List Int)) x_1=if bp (ab (List.take (Int.toNat 0) (aa x.1).1)) x_1=true then some (ay x.1 x_1) else none)∧∀ (x_1:Int),(ae ([]:List (Int×Int)) x_1).getD 0=(↑(List.count x_1 (List.flatMap (ay x.1) (ab (List.take (Int.toNat 0) (aa x.1).1)))):Int))∧∀ (x_1:(List Int×Unit×Unit)×List (Int×List Int)×List (Int×Int)×Int),(0≤x_1.2.2.2∧x_1.2.2.2≤(↑(aa x.1).1.length:Int)∧x_1.1.1=ab (List.take x_1.2.2.2.toNat (aa x.1).1)∧(∀ (x_2:Int),ae x_1.2.1 x_2=if bp (ab (List.take x_1.2.2.2.toNat (aa x.1).1)) x_2=true then some (ay x.1 x_2) else none)∧∀ (x_2:Int),(ae x_1.2.2.1 x_2).getD 0=(↑(List.count x_2 (List.flatMap (ay x.1) (ab (List.take x_1.2.2.2.toNat (aa x.1).1)))):Int))→(decide (x_1.2.2.2<(↑(aa x.1).1.length:Int))=true→0≤x_1.2.2.2∧x_1.2.2.2<(↑(aa x.1).1.length:Int)∧x_1.2.2.2.toNat<(aa x.1).1.length∧(((aa x.1).1.getD x_1.2.2.2.toNat (0,0,0,0,false)).2.2.2.2=true→aj .i64 (x_1.2.2.2+1)∧(0≤x_1.2.2.2+1∧x_1.2.2.2+1≤(↑(aa x.1).1.length:Int)∧x_1.1.1=ab (List.take (x_1.2.2.2+1).toNat (aa x.1).1)∧(∀ (x_2:Int),ae x_1.2.1 x_2=if bp (ab (List.take (x_1.2.2.2+1).toNat (aa x.1).1)) x_2=true then some (ay x.1 x_2) else none)∧∀ (x_2:Int),(ae x_1.2.2.1 x_2).getD 0=(↑(List.count x_2 (List.flatMap (ay x.1) (ab (List.take (x_1.2.2.2+1).toNat (aa x.1).1)))):Int))∧((↑(aa x.1).1.length:Int) - (x_1.2.2.2+1)).toNat<((↑(aa x.1).1.length:Int) - x_1.2.2.2).toNat)∧(((aa x.1).1.getD x_1.2.2.2.toNat (0,0,0,0,false)).2.2.2.2=false→(x_1.1.1.length+[((aa x.1).1.getD x_1.2.2.2.toNat (0,0,0,0,false)).1].length) * 8≤aL∧aj .i64 (((aa x.1).1.getD x_1.2.2.2.toNat (0,0,0,0,false)).1+1)∧aj .i64 (((aa x.1).1.getD x_1.2.2.2.toNat (0,0,0,0,false)).1+1)∧aj .i64 (((aa x.1).1.getD x_1.2.2.2.toNat (0,0,0,0,false)).1+1+((aa x.1).1.getD x_1.2.2.2.toNat (0,0,0,0,false)).2.1)∧0≤((aa x.1).1.getD x_1.2.2.2.toNat (0,0,0,0,false)).1+1∧((aa x.1).1.getD x_1.2.2.2.toNat (0,0,0,0,false)).1+1≤((aa x.1).1.getD x_1.2.2.2.toNat (0,0,0,0,false)).1+1+((aa x.1).1.getD x_1.2.2.2.toNat (0,0,0,0,false)).2.1∧((aa x.1).1.getD x_1.2.2.2.toNat (0,0,0,0,false)).1+1+((aa x.1).1.getD x_1.2.2.2.toNat (0,0,0,0,false)).2.1≤(↑x.1.length:Int)∧((0:Int)≤0∧0≤(↑(List.drop (((aa x.1).1.getD x_1.2.2.2.toNat (0,0,0,0,false)).1+1).toNat (List.take (((aa x.1).1.getD x_1.2.2.2.toNat (0,0,0,0,false)).1+1+((aa x.1).1.getD x_1.2.2.2.toNat (0,0,0,0,false)).2.1).toNat x.1)).length:Int)∧((aa x.1).1.getD x_1.2.2.2.toNat (0,0,0,0,false)).1=((aa x.1).1.getD x_1.2.2.2.toNat (0,0,0,0,false)).1∧(aM (List.map (fun (e:Int×List Int)=>(e.1,some e.2)) x_1.2.1) ((aa x.1).1.getD x_1.2.2.2.toNat (0,0,0,0,false)).1 none,([]:List Int)).1=(aM (List.map (fun (e:Int×List Int)=>(e.1,some e.2)) x_1.2.1) ((aa x.1).1.getD x_1.2.2.2.toNat (0,0,0,0,false)).1 none,([]:List Int)).1∧(aM (List.map (fun (e:Int×List Int)=>(e.1,some e.2)) x_1.2.1) ((aa x.1).1.getD x_1.2.2.2.toNat (0,0,0,0,false)).1 none,([]:List Int)).2=(aM (List.map (fun (e:Int×List Int)=>(e.1,some e.2)) x_1.2.1) ((aa x.1).1.getD x_1.2.2.2.toNat (0,0,0,0,false)).1 none,([]:List Int)).2++aY (List.take (Int.toNat 0) (List.drop (((aa x.1).1.getD x_1.2.2.2.toNat (0,0,0,0,false)).1+1).toNat (List.take (((aa x.1).1.getD x_1.2.2.2.toNat (0,0,0,0,false)).1+1+((aa x.1).1.getD x_1.2.2.2.toNat (0,0,0,0,false)).2.1).toNat x.1)))∧∀ (x_2:Int),(ae x_1.2.2.1 x_2).getD 0=(ae x_1.2.2.1 x_2).getD 0+(↑(List.count x_2 (aY (List.take (Int.toNat 0) (List.drop (((aa x.1).1.getD x_1.2.2.2.toNat (0,0,0,0,false)).1+1).toNat (List.take (((aa x.1).1.getD x_1.2.2.2.toNat (0,0,0,0,false)).1+1+((aa x.1).1.getD x_1.2.2.2.toNat (0,0,0,0,false)).2.1).toNat x.1))))):Int))∧∀ (x_2:(Int×List (Int×Option (List Int))×List Int)×List (Int×Int)×Int),(0≤x_2.2.2∧x_2.2.2≤(↑(List.drop (((aa x.1).1.getD x_1.2.2.2.toNat (0,0,0,0,false)).1+1).toNat (List.take (((aa x.1).1.getD x_1.2.2.2.toNat (0,0,0,0,false)).1+1+((aa x.1).1.getD x_1.2.2.2.toNat (0,0,0,0,false)).2.1).toNat x.1)).length:Int)∧x_2.1.1=((aa x.1).1.getD x_1.2.2.2.toNat (0,0,0,0,false)).1∧x_2.1.2.1=(aM (List.map (fun (e:Int×List Int)=>(e.1,some e.2)) x_1.2.1) ((aa x.1).1.getD x_1.2.2.2.toNat (0,0,0,0,false)).1 none,([]:List Int)).1∧x_2.1.2.2=(aM (List.map (fun (e:Int×List Int)=>(e.1,some e.2)) x_1.2.1) ((aa x.1).1.getD x_1.2.2.2.toNat (0,0,0,0,false)).1 none,([]:List Int)).2++aY (List.take x_2.2.2.toNat (List.drop (((aa x.1).1.getD x_1.2.2.2.toNat (0,0,0,0,false)).1+1).toNat (List.take (((aa x.1).1.getD x_1.2.2.2.toNat (0,0,0,0,false)).1+1+((aa x.1).1.getD x_1.2.2.2.toNat (0,0,0,0,false)).2.1).toNat x.1)))∧∀ (x_3:Int),(ae x_2.2.1 x_3).getD 0=(ae x_1.2.2.1 x_3).getD 0+(↑(List.count x_3 (aY (List.take x_2.2.2.toNat (List.drop (((aa x.1).1.getD x_1.2.2.2.toNat (0,0,0,0,false)).1+1).toNat (List.take (((aa x.1).1.getD x_1.2.2.2.toNat (0,0,0,0,false)).1+1+((aa x.1).1.getD x_1.2.2.2.toNat (0,0,0,0,false)).2.1).toNat x.1))))):Int))→(decide (x_2.2.2<(↑(List.drop (((aa x.1).1.getD x_1.2.2.2.toNat (0,0,0,0,false)).1+1).toNat (List.take (((aa x.1).1.getD x_1.2.2.2.toNat (0,0,0,0,false)).1+1+((aa x.1).1.getD x_1.2.2.2.toNat (0,0,0,0,false)).2.1).toNat x.1)).length:Int))=true→0≤x_2.2.2∧x_2.2.2<(↑(List.drop (((aa x.1).1.getD x_1.2.2.2.toNat (0,0,0,0,false)).1+1).toNat (List.take (((aa x.1).1.getD x_1.2.2.2.toNat (0,0,0,0,false)).1+1+((aa x.1).1.getD x_1.2.2.2.toNat (0,0,0,0,false)).2.1).toNat x.1)).length:Int)∧(decide ((List.drop (((aa x.1).1.getD x_1.2.2.2.toNat (0,0,0,0,false)).1+1).toNat (List.take (((aa x.1).1.getD x_1.2.2.2.toNat (0,0,0,0,false)).1+1+((aa x.1).1.getD x_1.2.2.2.toNat (0,0,0,0,false)).2.1).toNat x.1)).getD x_2.2.2.toNat (0:Int)≠0)=true→((aa x.1).1.getD x_1.2.2.2.toNat (0,0,0,0,false)).1=x_2.1.1∧aj .i64 (IntKind.i64.wrap ((List.drop (((aa x.1).1.getD x_1.2.2.2.toNat (0,0,0,0,false)).1+1).toNat (List.take (((aa x.1).1.getD x_1.2.2.2.toNat (0,0,0,0,false)).1+1+((aa x.1).1.getD x_1.2.2.2.toNat (0,0,0,0,false)).2.1).toNat x.1)).getD x_2.2.2.toNat 0) - 1)∧(x_2.1.2.2.length+[IntKind.i64.wrap ((List.drop (((aa x.1).1.getD x_1.2.2.2.toNat (0,0,0,0,false)).1+1).toNat (List.take (((aa x.1).1.getD x_1.2.2.2.toNat (0,0,0,0,false)).1+1+((aa x.1).1.getD x_1.2.2.2.toNat (0,0,0,0,false)).2.1).toNat x.1)).getD x_2.2.2.toNat 0) - 1].length) * 8≤aL∧((aa x.1).1.getD x_1.2.2.2.toNat (0,0,0,0,false)).1=((aa x.1).1.getD x_1.2.2.2.toNat (0,0,0,0,false)).1∧((aa x.1).1.getD x_1.2.2.2.toNat (0,0,0,0,false)).1=x_2.1.1∧aj .i64 (IntKind.i64.wrap ((List.drop (((aa x.1).1.getD x_1.2.2.2.toNat (0,0,0,0,false)).1+1).toNat (List.take (((aa x.1).1.getD x_1.2.2.2.toNat (0,0,0,0,false)).1+1+((aa x.1).1.getD x_1.2.2.2.toNat (0,0,0,0,false)).2.1).toNat x.1)).getD x_2.2.2.toNat 0) - 1)∧aj .i64 ((ae x_2.2.1 (IntKind.i64.wrap ((List.drop (((aa x.1).1.getD x_1.2.2.2.toNat (0,0,0,0,false)).1+1).toNat (List.take (((aa x.1).1.getD x_1.2.2.2.toNat (0,0,0,0,false)).1+1+((aa x.1).1.getD x_1.2.2.2.toNat (0,0,0,0,false)).2.1).toNat x.1)).getD x_2.2.2.toNat 0) - 1)).getD 0+1)∧aj .i64 (x_2.2.2+1)∧(0≤x_2.2.2+1∧x_2.2.2+1≤(↑(List.drop (((aa x.1).1.getD x_1.2.2.2.toNat (0,0,0,0,false)).1+1).toNat (List.take (((aa x.1).1.getD x_1.2.2.2.toNat (0,0,0,0,false)).1+1+((aa x.1).1.getD x_1.2.2.2.toNat (0,0,0,0,false)).2.1).toNat x.1)).length:Int)∧x_2.1.1=((aa x.1).1.getD x_1.2.2.2.toNat (0,0,0,0,false)).1∧(x_2.1.2.1,x_2.1.2.2++[IntKind.i64.wrap ((List.drop (((aa x.1).1.getD x_1.2.2.2.toNat (0,0,0,0,false)).1+1).toNat (List.take (((aa x.1).1.getD x_1.2.2.2.toNat (0,0,0,0,false)).1+1+((aa x.1).1.getD x_1.2.2.2.toNat (0,0,0,0,false)).2.1).toNat x.1)).getD x_2.2.2.toNat 0) - 1]).1=(aM (List.map (fun (e:Int×List Int)=>(e.1,some e.2)) x_1.2.1) ((aa x.1).1.getD x_1.2.2.2.toNat (0,0,0,0,false)).1 none,([]:List Int)).1∧(x_2.1.2.1,x_2.1.2.2++[IntKind.i64.wrap ((List.drop (((aa x.1).1.getD x_1.2.2.2.toNat (0,0,0,0,false)).1+1).toNat (List.take (((aa x.1).1.getD x_1.2.2.2.toNat (0,0,0,0,false)).1+1+((aa x.1).1.getD x_1.2.2.2.toNat (0,0,0,0,false)).2.1).toNat x.1)).getD x_2.2.2.toNat 0) - 1]).2=(aM (List.map (fun (e:Int×List Int)=>(e.1,some e.2)) x_1.2.1) ((aa x.1).1.getD x_1.2.2.2.toNat (0,0,0,0,false)).1 none,([]:List Int)).2++aY (List.take (x_2.2.2+1).toNat (List.drop (((aa x.1).1.getD x_1.2.2.2.toNat (0,0,0,0,false)).1+1).toNat (List.take (((aa x.1).1.getD x_1.2.2.2.toNat (0,0,0,0,false)).1+1+((aa x.1).1.getD x_1.2.2.2.toNat (0,0,0,0,false)).2.1).toNat x.1)))∧∀ (x_3:Int),(ae (aM x_2.2.1 (IntKind.i64.wrap ((List.drop (((aa x.1).1.getD x_1.2.2.2.toNat (0,0,0,0,false)).1+1).toNat (List.take (((aa x.1).1.getD x_1.2.2.2.toNat (0,0,0,0,false)).1+1+((aa x.1).1.getD x_1.2.2.2.toNat (0,0,0,0,false)).2.1).toNat x.1)).getD x_2.2.2.toNat 0) - 1) ((ae x_2.2.1 (IntKind.i64.wrap ((List.drop (((aa x.1).1.getD x_1.2.2.2.toNat (0,0,0,0,false)).1+1).toNat (List.take (((aa x.1).1.getD x_1.2.2.2.toNat (0,0,0,0,false)).1+1+((aa x.1).1.getD x_1.2.2.2.toNat (0,0,0,0,false)).2.1).toNat x.1)).getD x_2.2.2.toNat 0) - 1)).getD 0+1)) x_3).getD 0=(ae x_1.2.2.1 x_3).getD 0+(↑(List.count x_3 (aY (List.take (x_2.2.2+1).toNat (List.drop (((aa x.1).1.getD x_1.2.2.2.toNat (0,0,0,0,false)).1+1).toNat (List.take (((aa x.1).1.getD x_1.2.2.2.toNat (0,0,0,0,false)).1+1+((aa x.1).1.getD x_1.2.2.2.toNat (0,0,0,0,false)).2.1).toNat x.1))))):Int))∧((↑(List.drop (((aa x.1).1.getD x_1.2.2.2.toNat (0,0,0,0,false)).1+1).toNat (List.take (((aa x.1).1.getD x_1.2.2.2.toNat (0,0,0,0,false)).1+1+((aa x.1).1.getD x_1.2.2.2.toNat (0,0,0,0,false)).2.1).toNat x.1)).length:Int) - (x_2.2.2+1)).toNat<((↑(List.drop (((aa x.1).1.getD x_1.2.2.2.toNat (0,0,0,0,false)).1+1).toNat (List.take (((aa x.1).1.getD x_1.2.2.2.toNat (0,0,0,0,false)).1+1+((aa x.1).1.getD x_1.2.2.2.toNat (0,0,0,0,false)).2.1).toNat x.1)).length:Int) - x_2.2.2).toNat)∧(decide ((List.drop (((aa x.1).1.getD x_1.2.2.2.toNat (0,0,0,0,false)).1+1).toNat (List.take (((aa x.1).1.getD x_1.2.2.2.toNat (0,0,0,0,false)).1+1+((aa x.1).1.getD x_1.2.2.2.toNat (0,0,0,0,false)).2.1).toNat x.1)).getD x_2.2.2.toNat (0:Int)≠0)=false→aj .i64 (x_2.2.2+1)∧(0≤x_2.2.2+1∧x_2.2.2+1≤(↑(List.drop (((aa x.1).1.getD x_1.2.2.2.toNat (0,0,0,0,false)).1+1).toNat (List.take (((aa x.1).1.getD x_1.2.2.2.toNat (0,0,0,0,false)).1+1+((aa x.1).1.getD x_1.2.2.2.toNat (0,0,0,0,false)).2.1).toNat x.1)).length:Int)∧x_2.1.1=((aa x.1).1.getD x_1.2.2.2.toNat (0,0,0,0,false)).1∧x_2.1.2.1=(aM (List.map (fun (e:Int×List Int)=>(e.1,some e.2)) x_1.2.1) ((aa x.1).1.getD x_1.2.2.2.toNat (0,0,0,0,false)).1 none,([]:List Int)).1∧x_2.1.2.2=(aM (List.map (fun (e:Int×List Int)=>(e.1,some e.2)) x_1.2.1) ((aa x.1).1.getD x_1.2.2.2.toNat (0,0,0,0,false)).1 none,([]:List Int)).2++aY (List.take (x_2.2.2+1).toNat (List.drop (((aa x.1).1.getD x_1.2.2.2.toNat (0,0,0,0,false)).1+1).toNat (List.take (((aa x.1).1.getD x_1.2.2.2.toNat (0,0,0,0,false)).1+1+((aa x.1).1.getD x_1.2.2.2.toNat (0,0,0,0,false)).2.1).toNat x.1)))∧∀ (x_3:Int),(ae x_2.2.1 x_3).getD 0=(ae x_1.2.2.1 x_3).getD 0+(↑(List.count x_3 (aY (List.take (x_2.2.2+1).toNat (List.drop (((aa x.1).1.getD x_1.2.2.2.toNat (0,0,0,0,false)).1+1).toNat (List.take (((aa x.1).1.getD x_1.2.2.2.toNat (0,0,0,0,false)).1+1+((aa x.1).1.getD x_1.2.2.2.toNat (0,0,0,0,false)).2.1).toNat x.1))))):Int))∧((↑(List.drop (((aa x.1).1.getD x_1.2.2.2.toNat (0,0,0,0,false)).1+1).toNat (List.take (((aa x.1).1.getD x_1.2.2.2.toNat (0,0,0,0,false)).1+1+((aa x.1).1.getD x_1.2.2.2.toNat (0,0,0,0,false)).2.1).toNat x.1)).length:Int) - (x_2.2.2+1)).toNat<((↑(List.drop (((aa x.1).1.getD x_1.2.2.2.toNat (0,0,0,0,false)).1+1).toNat (List.take (((aa x.1).1.getD x_1.2.2.2.toNat (0,0,0,0,false)).1+1+((aa x.1).1.getD x_1.2.2.2.toNat (0,0,0,0,false)).2.1).toNat x.1)).length:Int) - x_2.2.2).toNat))∧(decide (x_2.2.2<(↑(List.drop (((aa x.1).1.getD x_1.2.2.2.toNat (0,0,0,0,false)).1+1).toNat (List.take (((aa x.1).1.getD x_1.2.2.2.toNat (0,0,0,0,false)).1+1+((aa x.1).1.getD x_1.2.2.2.toNat (0,0,0,0,false)).2.1).toNat x.1)).length:Int))=false→aj .i64 (x_1.2.2.2+1)∧(0≤x_1.2.2.2+1∧x_1.2.2.2+1≤(↑(aa x.1).1.length:Int)∧x_1.1.1++[((aa x.1).1.getD x_1.2.2.2.toNat (0,0,0,0,false)).1]=ab (List.take (x_1.2.2.2+1).toNat (aa x.1).1)∧(∀ (x_3:Int),ae (List.map (fun (e:Int×Option (List Int))=>(e.1,e.2.getD x_2.1.2.2)) x_2.1.2.1) x_3=if bp (ab (List.take (x_1.2.2.2+1).toNat (aa x.1).1)) x_3=true then some (ay x.1 x_3) else none)∧∀ (x_3:Int),(ae x_2.2.1 x_3).getD 0=(↑(List.count x_3 (List.flatMap (ay x.1) (ab (List.take (x_1.2.2.2+1).toNat (aa x.1).1)))):Int))∧((↑(aa x.1).1.length:Int) - (x_1.2.2.2+1)).toNat<((↑(aa x.1).1.length:Int) - x_1.2.2.2).toNat)))∧(decide (x_1.2.2.2<(↑(aa x.1).1.length:Int))=false→((x_1.1.1,(),())=(x_1.1.1,(),())∧(0:Int)≤0∧0≤(↑x.2.length:Int)∧(((List.drop (Int.toNat 0) x.2).all fun (x:Int)=>(ae x_1.2.1 x).isSome)=x.2.all fun (x:Int)=>(ae x_1.2.1 x).isSome)∧∀ (x_2:Int),(ae x_1.2.2.1 x_2).getD 0=(ae x_1.2.2.1 x_2).getD 0+(↑(List.count x_2 (List.take (Int.toNat 0) x.2)):Int))∧∀ (x_2:(List Int×Unit×Unit)×List (Int×Int)×Int),(x_2.1=(x_1.1.1,(),())∧0≤x_2.2.2∧x_2.2.2≤(↑x.2.length:Int)∧(((List.drop x_2.2.2.toNat x.2).all fun (x:Int)=>(ae x_1.2.1 x).isSome)=x.2.all fun (x:Int)=>(ae x_1.2.1 x).isSome)∧∀ (x_3:Int),(ae x_2.2.1 x_3).getD 0=(ae x_1.2.2.1 x_3).getD 0+(↑(List.count x_3 (List.take x_2.2.2.toNat x.2)):Int))→(decide (x_2.2.2<(↑x.2.length:Int))=true→0≤x_2.2.2∧x_2.2.2<(↑x.2.length:Int)∧((!(ae x_1.2.1 (x.2.getD x_2.2.2.toNat 0)).isSome)=true→(decide ((5:Int)≠0)=true→([]:List Int)=(bM x.1 x.2).1∧5=(bM x.1 x.2).2∧True)∧(decide ((5:Int)≠0)=false→True∧False))∧((!(ae x_1.2.1 (x.2.getD x_2.2.2.toNat 0)).isSome)=false→aj .i64 ((ae x_2.2.1 (x.2.getD x_2.2.2.toNat 0)).getD 0+1)∧aj .i64 (x_2.2.2+1)∧((x_2.1.1,(),())=(x_1.1.1,(),())∧0≤x_2.2.2+1∧x_2.2.2+1≤(↑x.2.length:Int)∧(((List.drop (x_2.2.2+1).toNat x.2).all fun (x:Int)=>(ae x_1.2.1 x).isSome)=x.2.all fun (x:Int)=>(ae x_1.2.1 x).isSome)∧∀ (x_3:Int),(ae (aM x_2.2.1 (x.2.getD x_2.2.2.toNat 0) ((ae x_2.2.1 (x.2.getD x_2.2.2.toNat 0)).getD 0+1)) x_3).getD 0=(ae x_1.2.2.1 x_3).getD 0+(↑(List.count x_3 (List.take (x_2.2.2+1).toNat x.2)):Int))∧((↑x.2.length:Int) - (x_2.2.2+1)).toNat<((↑x.2.length:Int) - x_2.2.2).toNat))∧(decide (x_2.2.2<(↑x.2.length:Int))=false→(decide ((0:Int)≠0)=true→([]:List Int)=(bM x.1 x.2).1∧0=(bM x.1 x.2).2∧True)∧(decide ((0:Int)≠0)=false→True∧((0:Int)≤0∧0≤(↑x_2.1.1.length:Int)∧([]:List Int)=List.filter (fun (x_3:Int)=>decide (0<(ae x_2.2.1 x_3).getD 0)&&!bp (bn x.1 x.2).1 x_3) (List.take (Int.toNat 0) x_2.1.1))∧∀ (x_3:List Int×Int),0≤x_3.2∧x_3.2≤(↑x_2.1.1.length:Int)∧x_3.1=List.filter (fun (x_4:Int)=>decide (0<(ae x_2.2.1 x_4).getD 0)&&!bp (bn x.1 x.2).1 x_4) (List.take x_3.2.toNat x_2.1.1)→(decide (x_3.2<(↑x_2.1.1.length:Int))=true→0≤x_3.2∧x_3.2<(↑x_2.1.1.length:Int)∧(decide (0<(ae x_2.2.1 (x_2.1.1.getD x_3.2.toNat 0)).getD 0)=true→True)∧((decide (0<(ae x_2.2.1 (x_2.1.1.getD x_3.2.toNat 0)).getD 0)&&!bp (bn x.1 x.2).1 (x_2.1.1.getD x_3.2.toNat 0))=true→(x_3.1.length+[x_2.1.1.getD x_3.2.toNat 0].length) * 8≤aL∧aj .i64 (x_3.2+1)∧(0≤x_3.2+1∧x_3.2+1≤(↑x_2.1.1.length:Int)∧x_3.1++[x_2.1.1.getD x_3.2.toNat 0]=List.filter (fun (x_4:Int)=>decide (0<(ae x_2.2.1 x_4).getD 0)&&!bp (bn x.1 x.2).1 x_4) (List.take (x_3.2+1).toNat x_2.1.1))∧((↑x_2.1.1.length:Int) - (x_3.2+1)).toNat<((↑x_2.1.1.length:Int) - x_3.2).toNat)∧((decide (0<(ae x_2.2.1 (x_2.1.1.getD x_3.2.toNat 0)).getD 0)&&!bp (bn x.1 x.2).1 (x_2.1.1.getD x_3.2.toNat 0))=false→aj .i64 (x_3.2+1)∧(0≤x_3.2+1∧x_3.2+1≤(↑x_2.1.1.length:Int)∧x_3.1=List.filter (fun (x_4:Int)=>decide (0<(ae x_2.2.1 x_4).getD 0)&&!bp (bn x.1 x.2).1 x_4) (List.take (x_3.2+1).toNat x_2.1.1))∧((↑x_2.1.1.length:Int) - (x_3.2+1)).toNat<((↑x_2.1.1.length:Int) - x_3.2).toNat))∧(decide (x_3.2<(↑x_2.1.1.length:Int))=false→x_3.1=(bM x.1 x.2).1∧0=(bM x.1 x.2).2∧True)))))
theorem qZ:nH:=by
 unfold nH
 intro ⟨a,f⟩ ⟨⟨hb,hw⟩,hbf,hf⟩ hroom tm
 unfold aL at hb hbf
 dsimp only at hb hw hbf hf hroom ⊢
 refine ⟨trivial,fun hc=>⟨fun _=>?_,fun hn=>by rw [hc] at hn; cases hn⟩,fun hc=>?_⟩
 ·have hc:=of_decide_eq_true hc
  have e:an a f=(ao a).2.2:=by unfold an; rw [if_pos hc]
  have e2:bM a f=([],(ao a).2.2):=by unfold bM; rw [e,if_pos hc]
  rw [e2]
  exact ⟨rfl,rfl,trivial⟩
 have hc:(ao a).2.2=0:=by simpa using of_decide_eq_false hc
 obtain ⟨hal,_,_,hz,_,_,_⟩:=dY hc
 have hsl:=aR a
 have hbl:=aG (aa a).1
 refine ⟨trivial,⟨by omega,by omega,rfl,fun _=>rfl,fun _=>rfl⟩,fun ⟨⟨o,⟨⟩,⟨⟩⟩,mr,mm,i⟩ ⟨i0,i1,i2,i3,i4⟩=>⟨fun hlt=>?_,fun hge=>?_⟩⟩
 ·dsimp only at i0 i1 i2 i3 i4 ⊢
  have hlt:i<((aa a).1.length:Int):=of_decide_eq_true hlt
  have hm:=bk ((0,0,0,0,false):aH) i0 hlt
  have ht:=aI ((0,0,0,0,false):aH) i0 hlt
  have hol:o.length≤256:=by
   rw [i2]
   have:=aG (List.take i.toNat (aa a).1)
   rw [List.length_take] at this
   omega
  have hfl:=b9 a hal o
  rw [ht,dj,← i2]
  rw [← i2] at i3 i4
  generalize (aa a).1.getD i.toNat (0,0,0,0,false)=s at *
  refine ⟨i0,hlt,by omega,fun hf0=>?_,fun hf0=>?_⟩
  ·have e:ab [s]=[]:=by simp only [ab]; rw [if_pos hf0]
   rw [e,List.append_nil]
   exact ⟨by simp only [aj]; omega,⟨by omega,by omega,rfl,i3,i4⟩,by omega⟩
  ·have e:ab [s]=[s.1]:=by simp only [ab]; rw [if_neg (by rw [hf0]; simp)]
   obtain ⟨hib,he⟩:=gk hm hf0
   obtain ⟨l1,_,l3,l4,l5,l6⟩:=ef hib
   have hrf:=dr hw hc _ (er hib).1
   have hrs:List.drop (s.1+1).toNat (List.take (s.1+1+(mG a s.1).1).toNat a)=ch a s.1:=rfl
   have hwr:∀ v∈ch a s.1,IntKind.i64.wrap v=v∧0≤v∧v≤256:=fun v hv=>by
    rcases hrf v hv with e | ⟨h1,h2,_⟩
    ·subst e; exact ⟨eo (by omega) (by omega),by omega,by omega⟩
    ·exact ⟨eo (by omega) (by omega),by omega,by omega⟩
   rw [e,he,hrs]
   have hO:ay a s.1=aY (ch a s.1):=rfl
   generalize hrs0:ch a s.1=rs at *
   generalize hx0:s.1=x at *
   simp only [aj]
   refine ⟨by unfold aL; rw [List.length_singleton]; omega,by omega,by omega,by omega,by omega,by omega,by omega,⟨by omega,by omega,trivial,trivial,rfl,fun _=>by simp [aY]⟩,fun ⟨⟨x0,m,ys⟩,mm2,j⟩ ⟨j0,j1,j2,j3,j4,j5⟩=>⟨fun hj=>?_,fun hj=>?_⟩⟩
   ·dsimp only at j0 j1 j2 j3 j4 j5 ⊢
    have hj:j<(rs.length:Int):=of_decide_eq_true hj
    have ht2:=aI (0:Int) j0 hj
    have hv:=bk (0:Int) j0 hj
    have hcl:=List.count_le_length (a:=rs.getD j.toNat 0 - 1) (l:=aY (rs.take j.toNat))
    have hcl2:=List.count_le_length (a:=rs.getD j.toNat 0 - 1) (l:=o.flatMap (ay a))
    have hql:(aY (rs.take j.toNat)).length≤rs.length:=by
     unfold aY
     rw [List.length_map]
     refine Nat.le_trans (List.length_filter_le _ _) ?_
     rw [List.length_take]
     omega
    rw [ht2,ic]
    have q5:=j5 (rs.getD j.toNat 0 - 1)
    have q4:=i4 (rs.getD j.toNat 0 - 1)
    generalize hv0:rs.getD j.toNat 0=v at *
    obtain ⟨w1,w2,w3⟩:=hwr v hv
    rw [w1]
    have hys:ys.length≤256:=by rw [j4]; simp only [List.nil_append]; omega
    refine ⟨j0,hj,fun hne=>?_,fun hne=>?_⟩
    ·have hne:=of_decide_eq_true hne
     rw [if_neg hne]
     refine ⟨j2.symm,by omega,by unfold aL; rw [List.length_singleton]; omega,trivial,j2.symm,by omega,by omega,by omega,⟨by omega,by omega,j2,j3,?_,fB j5⟩,by omega⟩
     rw [j4,List.nil_append]
     rfl
    ·have hne:v=0:=by simpa using of_decide_eq_false hne
     rw [if_pos hne,List.append_nil]
     exact ⟨by omega,⟨by omega,by omega,j2,j3,j4,j5⟩,by omega⟩
   ·dsimp only at j0 j1 j2 j3 j4 j5 ⊢
    have hj:¬ j<(rs.length:Int):=of_decide_eq_false hj
    rw [aX hj] at j4 j5
    have hys:ys=ay a x:=by rw [j4,List.nil_append]; exact hO.symm
    have hcm:=f0 x ys mr
    have j3:m=aM (mr.map fun e=>(e.1,some e.2)) x none:=j3
    refine ⟨by omega,⟨by omega,by omega,trivial,fun z=>?_,fun z=>?_⟩,by omega⟩
    ·have e3:List.map (fun (e:Int×Option (List Int))=>(e.1,e.2.getD ys)) m=aM mr x (ay a x):=by rw [j3,hcm,hys]
     exact (congrArg (fun l=>ae l z) e3).trans (lx i3 z)
    ·rw [j5 z,i4 z,← hO,List.flatMap_append,List.count_append]
     simp
 dsimp only at i0 i1 i2 i3 i4 ⊢
 have hge:¬ i<((aa a).1.length:Int):=of_decide_eq_false hge
 rw [aX hge] at i2 i3 i4
 have hsome:∀ x,(ae mr x).isSome=isB (aa a).1 x:=fun x=>by rw [i3 x,aS]; cases isB (aa a).1 x <;> rfl
 have hol:o.length≤256:=by rw [i2]; omega
 have hfl:=b9 a hal (ab (aa a).1)
 refine ⟨⟨rfl,by omega,by omega,rfl,fun _=>by simp⟩,fun ⟨b,mm2,j⟩ ⟨j4,j0,j1,j2,j3⟩=>⟨fun hlt=>?_,fun hge=>?_⟩⟩
 ·dsimp only at j0 j1 j2 j3 j4 ⊢
  subst j4
  have hlt:j<(f.length:Int):=of_decide_eq_true hlt
  have ht:=aI (0:Int) j0 hlt
  have hcl:=List.count_le_length (a:=f.getD j.toNat 0) (l:=f.take j.toNat)
  have hcl2:=List.count_le_length (a:=f.getD j.toNat 0) (l:=(ab (aa a).1).flatMap (ay a))
  rw [List.length_take] at hcl
  have q3:=j3 (f.getD j.toNat 0)
  have q4:=i4 (f.getD j.toNat 0)
  have hs:=hsome (f.getD j.toNat 0)
  simp only [hsome] at j2 ⊢
  rw [aV (0:Int) j0 hlt,List.all_cons] at j2
  rw [ht]
  refine ⟨j0,hlt,fun hn=>⟨fun _=>?_,fun h=>by simp at h⟩,fun hn=>⟨by simp only [aj]; omega,by simp only [aj]; omega,⟨trivial,by omega,by omega,?_,fB j3⟩,by omega⟩⟩
  ·have hn:isB (aa a).1 (f.getD j.toNat 0)=false:=by simpa using hn
   rw [hn,Bool.false_and] at j2
   have e:an a f=5:=by unfold an; rw [if_neg (by omega),← j2]; rfl
   have e2:bM a f=([],5):=by unfold bM; rw [e]; rfl
   rw [e2]
   exact ⟨rfl,rfl,trivial⟩
  ·have hn:isB (aa a).1 (f.getD j.toNat 0)=true:=by simpa using hn
   rw [hn,Bool.true_and] at j2
   exact j2
 dsimp only at j0 j1 j2 j3 j4 ⊢
 subst j4
 have hge:¬ j<(f.length:Int):=of_decide_eq_false hge
 simp only [hsome] at j2
 rw [br hge,List.all_nil] at j2
 rw [aX hge] at j3
 have hfb:∀ x∈f,isB (aa a).1 x=true:=List.all_eq_true.1 j2.symm
 have e0:an a f=0:=ev hc hfb
 have hcnt:∀ x,(ae mm2 x).getD 0=(aQ a f (ab (aa a).1) x:Int):=fun x=>by
  rw [j3 x,i4 x]
  unfold aQ
  omega
 refine ⟨fun h=>by simp at h,fun _=>?_⟩
 have hR:(bn a f).1=cp a f:=by unfold bn; rw [if_neg (by omega)]
 have hD:bM a f=(o.filter fun x=>decide (0<(ae mm2 x).getD 0)&&!bp (bn a f).1 x,0):=by
  unfold bM oO
  rw [if_neg (by omega),i2,hR]
  congr 2
  funext x
  rw [hcnt x]
  congr 2
  exact propext Int.natCast_pos.symm
 rw [hD]
 refine ⟨trivial,⟨by omega,by omega,rfl⟩,fun ⟨out,i⟩ ⟨i0,i1,i5⟩=>⟨fun hlt=>?_,fun hge=>?_⟩⟩
 ·dsimp only at i0 i1 i5 ⊢
  have hlt:i<(o.length:Int):=of_decide_eq_true hlt
  have hl:out.length≤256:=by
   rw [i5]
   refine Nat.le_trans (List.length_filter_le _ _) ?_
   rw [List.length_take]
   omega
  rw [aI (0:Int) i0 hlt,List.filter_append,← i5]
  refine ⟨i0,hlt,fun _=>trivial,fun hcd=>?_,fun hcd=>?_⟩
  ·rw [List.filter_cons_of_pos (p:=fun x=>decide (0<(ae mm2 x).getD 0)&&!bp (bn a f).1 x) hcd,List.filter_nil]
   exact ⟨by unfold aL; rw [List.length_singleton]; omega,by simp only [aj]; omega,⟨by omega,by omega,rfl⟩,by omega⟩
  ·rw [List.filter_cons_of_neg (p:=fun x=>decide (0<(ae mm2 x).getD 0)&&!bp (bn a f).1 x) (by rw [hcd]; simp),List.filter_nil,List.append_nil]
   exact ⟨by simp only [aj]; omega,⟨by omega,by omega,rfl⟩,by omega⟩
 ·dsimp only at i0 i1 i5 ⊢
  rw [aX (of_decide_eq_false hge)] at i5
  exact ⟨i5,rfl,trivial⟩
theorem s7:sO.ok Try.prog 29:=bJ (ann:=tx) (ai eq (ai dI (ai ue (ai vf aJ)))) Try.func29 (by kernel_rfl) qZ
structure DropW (a f out:List Int) (mg mm:List (Int×Int)):Prop where
 goes:Goes a f out
 gone:∀ x,0<(ae mg x).getD 0 ↔ x∈out
 many:∀ x,(ae mm x).getD 0=(aQ a f (aC a out) x:Int)
def uR:Nat→Option LoopGen
 | 3000083=>some dP
 | 8400000007=>some r6
 | 8400000013=>some r5
 | 8400000021=>some rZ
 | 8404000010=>some dP
 | 8407000011=>some dP
 | 8404000011=>some dP
 | 8404000016=>some dP
 | 4000006=>some dP
 | 10=>some { rd:=[.dat 0 (.arr ci),.dat 1 (.arr ty_I),.dat 2 ty_I],A:=fun ((a,f,k):List Int×List Int×Int)=>{ cs:=[.own 10 3 ty_I,.map 46 .i64 ty_I,.map 124000020 .i64 ty_I,.dat 12 .bool],inv:=fun ((out,mg,mm,ag):List Int×List (Int×Int)×List (Int×Int)×Bool)=>DropW a (dt f k) out mg mm∧(ag=false→∀ x∈aC a out,0<aQ a (dt f k) (aC a out) x),mu:=fun ((out,_,_,ag):List Int×List (Int×Int)×List (Int×Int)×Bool)=>2 * (256 - out.length)+(if ag=true then 1 else 0) } }
 | 13=>some { rd:=[.dat 51 (.arr ty_I),.dat 0 (.arr ci),.dat 1 (.arr ty_I),.dat 2 ty_I,.own 10 3 ty_I],A:=fun ((o,a,f,k,out0):List Int×List Int×List Int×Int×List Int)=>{ cs:=[.own 10 3 ty_I,.map 46 .i64 ty_I,.map 124000020 .i64 ty_I,.dat 12 .bool,.dat 53 ty_I],inv:=fun ((out,mg,mm,ag,i):List Int×List (Int×Int)×List (Int×Int)×Bool×Int)=>0≤i∧i≤o.length∧DropW a (dt f k) out mg mm∧(ag=false→out=out0∧∀ x∈o.take i.toNat,x∈out∨0<aQ a (dt f k) (aC a out) x)∧(ag=true→out0.length<out.length),mu:=fun ((_,_,_,_,i):List Int×List (Int×Int)×List (Int×Int)×Bool×Int)=>(o.length - i).toNat } }
 | 19=>some { rd:=[.dat 81 (.arr ty_I),.map 124000020 .i64 ty_I],A:=fun ((rs,mm0):List Int×List (Int×Int))=>{ cs:=[.map 124000020 .i64 ty_I,.dat 83 ty_I],inv:=fun ((mm,j):List (Int×Int)×Int)=>0≤j∧j≤rs.length∧∀ x,(ae mm x).getD 0=(ae mm0 x).getD 0 - ((rs.take j.toNat).count x:Int),mu:=fun ((_,j):List (Int×Int)×Int)=>(rs.length - j).toNat } }
 | _=>none
def tP:Spec:={ Ts:=[.arr ci,.arr ty_I,ty_I],Rs:=[.own 3 ty_I,.dat ty_I],pre:=fun ((_,f,_):List Int×List Int×Int)=>f.length * 8≤140737488351232,F:=fun ((a,f,k):List Int×List Int×Int)=>bD a f k }
def p9:Prop :=
  ∀ (x:List Int×List Int×Int),(x.1.length * (8:Nat)≤aL∧∀ (x_1:Int),x_1∈x.1→aj IntKind.u64 x_1)∧(x.2.1.length * (8:Nat)≤aL∧∀ (x_1:Int),x_1∈x.2.1→aj IntKind.i64 x_1)∧aj IntKind.i64 x.2.2→x.2.1.length * (8:Nat)≤(140737488351232:Nat)→∀ (_:Array Value),True∧(decide ((ao x.1).2.2≠(0:Int))=true→(decide ((ao x.1).2.2≠(0:Int))=true→([]:List Int)=(bD x.1 x.2.1 x.2.2).1∧(ao x.1).2.2=(bD x.1 x.2.1 x.2.2).2∧True)∧(decide ((ao x.1).2.2≠(0:Int))=false→((decide (x.2.2<(0:Int))||decide ((↑x.2.1.length:Int)≤x.2.2))=true→([]:List Int)=(bD x.1 x.2.1 x.2.2).1∧(4:Int)=(bD x.1 x.2.1 x.2.2).2∧True)∧((decide (x.2.2<(0:Int))||decide ((↑x.2.1.length:Int)≤x.2.2))=false→False)))∧(decide ((ao x.1).2.2≠(0:Int))=false→True∧((0:Int)≤(0:Int)∧(0:Int)≤(↑(aa x.1).1.length:Int)∧([]:List Int)=ab (List.take (Int.toNat (0:Int)) (aa x.1).1)∧(∀ (x_1:Int),ae ([]:List (Int×List Int)) x_1=if bp (ab (List.take (Int.toNat (0:Int)) (aa x.1).1)) x_1=true then some (ay x.1 x_1) else none)∧∀ (x_1:Int),(ae ([]:List (Int×Int)) x_1).getD (0:Int)=(↑(List.count x_1 (List.flatMap (ay x.1) (ab (List.take (Int.toNat (0:Int)) (aa x.1).1)))):Int))∧∀ (x_1:(List Int×Unit×Unit)×List (Int×List Int)×List (Int×Int)×Int),((0:Int)≤x_1.2.2.2∧x_1.2.2.2≤(↑(aa x.1).1.length:Int)∧x_1.1.1=ab (List.take x_1.2.2.2.toNat (aa x.1).1)∧(∀ (x_2:Int),ae x_1.2.1 x_2=if bp (ab (List.take x_1.2.2.2.toNat (aa x.1).1)) x_2=true then some (ay x.1 x_2) else none)∧∀ (x_2:Int),(ae x_1.2.2.1 x_2).getD (0:Int)=(↑(List.count x_2 (List.flatMap (ay x.1) (ab (List.take x_1.2.2.2.toNat (aa x.1).1)))):Int))→(decide (x_1.2.2.2<(↑(aa x.1).1.length:Int))=true→(0:Int)≤x_1.2.2.2∧x_1.2.2.2<(↑(aa x.1).1.length:Int)∧x_1.2.2.2.toNat<(aa x.1).1.length∧(((aa x.1).1.getD x_1.2.2.2.toNat ((0:Int),(0:Int),(0:Int),(0:Int),false)).2.2.2.2=true→aj IntKind.i64 (x_1.2.2.2+(1:Int))∧((0:Int)≤x_1.2.2.2+(1:Int)∧x_1.2.2.2+(1:Int)≤(↑(aa x.1).1.length:Int)∧x_1.1.1=ab (List.take (x_1.2.2.2+(1:Int)).toNat (aa x.1).1)∧(∀ (x_2:Int),ae x_1.2.1 x_2=if bp (ab (List.take (x_1.2.2.2+(1:Int)).toNat (aa x.1).1)) x_2=true then some (ay x.1 x_2) else none)∧∀ (x_2:Int),(ae x_1.2.2.1 x_2).getD (0:Int)=(↑(List.count x_2 (List.flatMap (ay x.1) (ab (List.take (x_1.2.2.2+(1:Int)).toNat (aa x.1).1)))):Int))∧((↑(aa x.1).1.length:Int) - (x_1.2.2.2+(1:Int))).toNat<((↑(aa x.1).1.length:Int) - x_1.2.2.2).toNat)∧(((aa x.1).1.getD x_1.2.2.2.toNat ((0:Int),(0:Int),(0:Int),(0:Int),false)).2.2.2.2=false→(x_1.1.1.length+[((aa x.1).1.getD x_1.2.2.2.toNat ((0:Int),(0:Int),(0:Int),(0:Int),false)).1].length) * (8:Nat)≤aL∧aj IntKind.i64 (((aa x.1).1.getD x_1.2.2.2.toNat ((0:Int),(0:Int),(0:Int),(0:Int),false)).1+(1:Int))∧aj IntKind.i64 (((aa x.1).1.getD x_1.2.2.2.toNat ((0:Int),(0:Int),(0:Int),(0:Int),false)).1+(1:Int))∧aj IntKind.i64 (((aa x.1).1.getD x_1.2.2.2.toNat ((0:Int),(0:Int),(0:Int),(0:Int),false)).1+(1:Int)+((aa x.1).1.getD x_1.2.2.2.toNat ((0:Int),(0:Int),(0:Int),(0:Int),false)).2.1)∧(0:Int)≤((aa x.1).1.getD x_1.2.2.2.toNat ((0:Int),(0:Int),(0:Int),(0:Int),false)).1+(1:Int)∧((aa x.1).1.getD x_1.2.2.2.toNat ((0:Int),(0:Int),(0:Int),(0:Int),false)).1+(1:Int)≤((aa x.1).1.getD x_1.2.2.2.toNat ((0:Int),(0:Int),(0:Int),(0:Int),false)).1+(1:Int)+((aa x.1).1.getD x_1.2.2.2.toNat ((0:Int),(0:Int),(0:Int),(0:Int),false)).2.1∧((aa x.1).1.getD x_1.2.2.2.toNat ((0:Int),(0:Int),(0:Int),(0:Int),false)).1+(1:Int)+((aa x.1).1.getD x_1.2.2.2.toNat ((0:Int),(0:Int),(0:Int),(0:Int),false)).2.1≤(↑x.1.length:Int)∧((0:Int)≤(0:Int)∧(0:Int)≤(↑(List.drop (((aa x.1).1.getD x_1.2.2.2.toNat ((0:Int),(0:Int),(0:Int),(0:Int),false)).1+(1:Int)).toNat (List.take (((aa x.1).1.getD x_1.2.2.2.toNat ((0:Int),(0:Int),(0:Int),(0:Int),false)).1+(1:Int)+((aa x.1).1.getD x_1.2.2.2.toNat ((0:Int),(0:Int),(0:Int),(0:Int),false)).2.1).toNat x.1)).length:Int)∧((aa x.1).1.getD x_1.2.2.2.toNat ((0:Int),(0:Int),(0:Int),(0:Int),false)).1=((aa x.1).1.getD x_1.2.2.2.toNat ((0:Int),(0:Int),(0:Int),(0:Int),false)).1∧(aM (List.map (fun (e:Int×List Int)=>(e.1,some e.2)) x_1.2.1) ((aa x.1).1.getD x_1.2.2.2.toNat ((0:Int),(0:Int),(0:Int),(0:Int),false)).1 none,([]:List Int)).1=(aM (List.map (fun (e:Int×List Int)=>(e.1,some e.2)) x_1.2.1) ((aa x.1).1.getD x_1.2.2.2.toNat ((0:Int),(0:Int),(0:Int),(0:Int),false)).1 none,([]:List Int)).1∧(aM (List.map (fun (e:Int×List Int)=>(e.1,some e.2)) x_1.2.1) ((aa x.1).1.getD x_1.2.2.2.toNat ((0:Int),(0:Int),(0:Int),(0:Int),false)).1 none,([]:List Int)).2=(aM (List.map (fun (e:Int×List Int)=>(e.1,some e.2)) x_1.2.1) ((aa x.1).1.getD x_1.2.2.2.toNat ((0:Int),(0:Int),(0:Int),(0:Int),false)).1 none,([]:List Int)).2++aY (List.take (Int.toNat (0:Int)) (List.drop (((aa x.1).1.getD x_1.2.2.2.toNat ((0:Int),(0:Int),(0:Int),(0:Int),false)).1+(1:Int)).toNat (List.take (((aa x.1).1.getD x_1.2.2.2.toNat ((0:Int),(0:Int),(0:Int),(0:Int),false)).1+(1:Int)+((aa x.1).1.getD x_1.2.2.2.toNat ((0:Int),(0:Int),(0:Int),(0:Int),false)).2.1).toNat x.1)))∧∀ (x_2:Int),(ae x_1.2.2.1 x_2).getD (0:Int)=(ae x_1.2.2.1 x_2).getD (0:Int)+(↑(List.count x_2 (aY (List.take (Int.toNat (0:Int)) (List.drop (((aa x.1).1.getD x_1.2.2.2.toNat ((0:Int),(0:Int),(0:Int),(0:Int),false)).1+(1:Int)).toNat (List.take (((aa x.1).1.getD x_1.2.2.2.toNat ((0:Int),(0:Int),(0:Int),(0:Int),false)).1+(1:Int)+((aa x.1).1.getD x_1.2.2.2.toNat ((0:Int),(0:Int),(0:Int),(0:Int),false)).2.1).toNat x.1))))):Int))∧∀ (x_2:(Int×List (Int×Option (List Int))×List Int)×List (Int×Int)×Int),((0:Int)≤x_2.2.2∧x_2.2.2≤(↑(List.drop (((aa x.1).1.getD x_1.2.2.2.toNat ((0:Int),(0:Int),(0:Int),(0:Int),false)).1+(1:Int)).toNat (List.take (((aa x.1).1.getD x_1.2.2.2.toNat ((0:Int),(0:Int),(0:Int),(0:Int),false)).1+(1:Int)+((aa x.1).1.getD x_1.2.2.2.toNat ((0:Int),(0:Int),(0:Int),(0:Int),false)).2.1).toNat x.1)).length:Int)∧x_2.1.1=((aa x.1).1.getD x_1.2.2.2.toNat ((0:Int),(0:Int),(0:Int),(0:Int),false)).1∧x_2.1.2.1=(aM (List.map (fun (e:Int×List Int)=>(e.1,some e.2)) x_1.2.1) ((aa x.1).1.getD x_1.2.2.2.toNat ((0:Int),(0:Int),(0:Int),(0:Int),false)).1 none,([]:List Int)).1∧x_2.1.2.2=(aM (List.map (fun (e:Int×List Int)=>(e.1,some e.2)) x_1.2.1) ((aa x.1).1.getD x_1.2.2.2.toNat ((0:Int),(0:Int),(0:Int),(0:Int),false)).1 none,([]:List Int)).2++aY (List.take x_2.2.2.toNat (List.drop (((aa x.1).1.getD x_1.2.2.2.toNat ((0:Int),(0:Int),(0:Int),(0:Int),false)).1+(1:Int)).toNat (List.take (((aa x.1).1.getD x_1.2.2.2.toNat ((0:Int),(0:Int),(0:Int),(0:Int),false)).1+(1:Int)+((aa x.1).1.getD x_1.2.2.2.toNat ((0:Int),(0:Int),(0:Int),(0:Int),false)).2.1).toNat x.1)))∧∀ (x_3:Int),(ae x_2.2.1 x_3).getD (0:Int)=(ae x_1.2.2.1 x_3).getD (0:Int)+(↑(List.count x_3 (aY (List.take x_2.2.2.toNat (List.drop (((aa x.1).1.getD x_1.2.2.2.toNat ((0:Int),(0:Int),(0:Int),(0:Int),false)).1+(1:Int)).toNat (List.take (((aa x.1).1.getD x_1.2.2.2.toNat ((0:Int),(0:Int),(0:Int),(0:Int),false)).1+(1:Int)+((aa x.1).1.getD x_1.2.2.2.toNat ((0:Int),(0:Int),(0:Int),(0:Int),false)).2.1).toNat x.1))))):Int))→(decide (x_2.2.2<(↑(List.drop (((aa x.1).1.getD x_1.2.2.2.toNat ((0:Int),(0:Int),(0:Int),(0:Int),false)).1+(1:Int)).toNat (List.take (((aa x.1).1.getD x_1.2.2.2.toNat ((0:Int),(0:Int),(0:Int),(0:Int),false)).1+(1:Int)+((aa x.1).1.getD x_1.2.2.2.toNat ((0:Int),(0:Int),(0:Int),(0:Int),false)).2.1).toNat x.1)).length:Int))=true→(0:Int)≤x_2.2.2∧x_2.2.2<(↑(List.drop (((aa x.1).1.getD x_1.2.2.2.toNat ((0:Int),(0:Int),(0:Int),(0:Int),false)).1+(1:Int)).toNat (List.take (((aa x.1).1.getD x_1.2.2.2.toNat ((0:Int),(0:Int),(0:Int),(0:Int),false)).1+(1:Int)+((aa x.1).1.getD x_1.2.2.2.toNat ((0:Int),(0:Int),(0:Int),(0:Int),false)).2.1).toNat x.1)).length:Int)∧(decide ((List.drop (((aa x.1).1.getD x_1.2.2.2.toNat ((0:Int),(0:Int),(0:Int),(0:Int),false)).1+(1:Int)).toNat (List.take (((aa x.1).1.getD x_1.2.2.2.toNat ((0:Int),(0:Int),(0:Int),(0:Int),false)).1+(1:Int)+((aa x.1).1.getD x_1.2.2.2.toNat ((0:Int),(0:Int),(0:Int),(0:Int),false)).2.1).toNat x.1)).getD x_2.2.2.toNat (0:Int)≠(0:Int))=true→((aa x.1).1.getD x_1.2.2.2.toNat ((0:Int),(0:Int),(0:Int),(0:Int),false)).1=x_2.1.1∧aj IntKind.i64 (IntKind.i64.wrap ((List.drop (((aa x.1).1.getD x_1.2.2.2.toNat ((0:Int),(0:Int),(0:Int),(0:Int),false)).1+(1:Int)).toNat (List.take (((aa x.1).1.getD x_1.2.2.2.toNat ((0:Int),(0:Int),(0:Int),(0:Int),false)).1+(1:Int)+((aa x.1).1.getD x_1.2.2.2.toNat ((0:Int),(0:Int),(0:Int),(0:Int),false)).2.1).toNat x.1)).getD x_2.2.2.toNat (0:Int)) - (1:Int))∧(x_2.1.2.2.length+[IntKind.i64.wrap ((List.drop (((aa x.1).1.getD x_1.2.2.2.toNat ((0:Int),(0:Int),(0:Int),(0:Int),false)).1+(1:Int)).toNat (List.take (((aa x.1).1.getD x_1.2.2.2.toNat ((0:Int),(0:Int),(0:Int),(0:Int),false)).1+(1:Int)+((aa x.1).1.getD x_1.2.2.2.toNat ((0:Int),(0:Int),(0:Int),(0:Int),false)).2.1).toNat x.1)).getD x_2.2.2.toNat (0:Int)) - (1:Int)].length) * (8:Nat)≤aL∧((aa x.1).1.getD x_1.2.2.2.toNat ((0:Int),(0:Int),(0:Int),(0:Int),false)).1=((aa x.1).1.getD x_1.2.2.2.toNat ((0:Int),(0:Int),(0:Int),(0:Int),false)).1∧((aa x.1).1.getD x_1.2.2.2.toNat ((0:Int),(0:Int),(0:Int),(0:Int),false)).1=x_2.1.1∧aj IntKind.i64 (IntKind.i64.wrap ((List.drop (((aa x.1).1.getD x_1.2.2.2.toNat ((0:Int),(0:Int),(0:Int),(0:Int),false)).1+(1:Int)).toNat (List.take (((aa x.1).1.getD x_1.2.2.2.toNat ((0:Int),(0:Int),(0:Int),(0:Int),false)).1+(1:Int)+((aa x.1).1.getD x_1.2.2.2.toNat ((0:Int),(0:Int),(0:Int),(0:Int),false)).2.1).toNat x.1)).getD x_2.2.2.toNat (0:Int)) - (1:Int))∧aj IntKind.i64 ((ae x_2.2.1 (IntKind.i64.wrap ((List.drop (((aa x.1).1.getD x_1.2.2.2.toNat ((0:Int),(0:Int),(0:Int),(0:Int),false)).1+(1:Int)).toNat (List.take (((aa x.1).1.getD x_1.2.2.2.toNat ((0:Int),(0:Int),(0:Int),(0:Int),false)).1+(1:Int)+((aa x.1).1.getD x_1.2.2.2.toNat ((0:Int),(0:Int),(0:Int),(0:Int),false)).2.1).toNat x.1)).getD x_2.2.2.toNat (0:Int)) - (1:Int))).getD (0:Int)+(1:Int))∧aj IntKind.i64 (x_2.2.2+(1:Int))∧((0:Int)≤x_2.2.2+(1:Int)∧x_2.2.2+(1:Int)≤(↑(List.drop (((aa x.1).1.getD x_1.2.2.2.toNat ((0:Int),(0:Int),(0:Int),(0:Int),false)).1+(1:Int)).toNat (List.take (((aa x.1).1.getD x_1.2.2.2.toNat ((0:Int),(0:Int),(0:Int),(0:Int),false)).1+(1:Int)+((aa x.1).1.getD x_1.2.2.2.toNat ((0:Int),(0:Int),(0:Int),(0:Int),false)).2.1).toNat x.1)).length:Int)∧x_2.1.1=((aa x.1).1.getD x_1.2.2.2.toNat ((0:Int),(0:Int),(0:Int),(0:Int),false)).1∧(x_2.1.2.1,x_2.1.2.2++[IntKind.i64.wrap ((List.drop (((aa x.1).1.getD x_1.2.2.2.toNat ((0:Int),(0:Int),(0:Int),(0:Int),false)).1+(1:Int)).toNat (List.take (((aa x.1).1.getD x_1.2.2.2.toNat ((0:Int),(0:Int),(0:Int),(0:Int),false)).1+(1:Int)+((aa x.1).1.getD x_1.2.2.2.toNat ((0:Int),(0:Int),(0:Int),(0:Int),false)).2.1).toNat x.1)).getD x_2.2.2.toNat (0:Int)) - (1:Int)]).1=(aM (List.map (fun (e:Int×List Int)=>(e.1,some e.2)) x_1.2.1) ((aa x.1).1.getD x_1.2.2.2.toNat ((0:Int),(0:Int),(0:Int),(0:Int),false)).1 none,([]:List Int)).1∧(x_2.1.2.1,x_2.1.2.2++[IntKind.i64.wrap ((List.drop (((aa x.1).1.getD x_1.2.2.2.toNat ((0:Int),(0:Int),(0:Int),(0:Int),false)).1+(1:Int)).toNat (List.take (((aa x.1).1.getD x_1.2.2.2.toNat ((0:Int),(0:Int),(0:Int),(0:Int),false)).1+(1:Int)+((aa x.1).1.getD x_1.2.2.2.toNat ((0:Int),(0:Int),(0:Int),(0:Int),false)).2.1).toNat x.1)).getD x_2.2.2.toNat (0:Int)) - (1:Int)]).2=(aM (List.map (fun (e:Int×List Int)=>(e.1,some e.2)) x_1.2.1) ((aa x.1).1.getD x_1.2.2.2.toNat ((0:Int),(0:Int),(0:Int),(0:Int),false)).1 none,([]:List Int)).2++aY (List.take (x_2.2.2+(1:Int)).toNat (List.drop (((aa x.1).1.getD x_1.2.2.2.toNat ((0:Int),(0:Int),(0:Int),(0:Int),false)).1+(1:Int)).toNat (List.take (((aa x.1).1.getD x_1.2.2.2.toNat ((0:Int),(0:Int),(0:Int),(0:Int),false)).1+(1:Int)+((aa x.1).1.getD x_1.2.2.2.toNat ((0:Int),(0:Int),(0:Int),(0:Int),false)).2.1).toNat x.1)))∧∀ (x_3:Int),(ae (aM x_2.2.1 (IntKind.i64.wrap ((List.drop (((aa x.1).1.getD x_1.2.2.2.toNat ((0:Int),(0:Int),(0:Int),(0:Int),false)).1+(1:Int)).toNat (List.take (((aa x.1).1.getD x_1.2.2.2.toNat ((0:Int),(0:Int),(0:Int),(0:Int),false)).1+(1:Int)+((aa x.1).1.getD x_1.2.2.2.toNat ((0:Int),(0:Int),(0:Int),(0:Int),false)).2.1).toNat x.1)).getD x_2.2.2.toNat (0:Int)) - (1:Int)) ((ae x_2.2.1 (IntKind.i64.wrap ((List.drop (((aa x.1).1.getD x_1.2.2.2.toNat ((0:Int),(0:Int),(0:Int),(0:Int),false)).1+(1:Int)).toNat (List.take (((aa x.1).1.getD x_1.2.2.2.toNat ((0:Int),(0:Int),(0:Int),(0:Int),false)).1+(1:Int)+((aa x.1).1.getD x_1.2.2.2.toNat ((0:Int),(0:Int),(0:Int),(0:Int),false)).2.1).toNat x.1)).getD x_2.2.2.toNat (0:Int)) - (1:Int))).getD (0:Int)+(1:Int))) x_3).getD (0:Int)=(ae x_1.2.2.1 x_3).getD (0:Int)+(↑(List.count x_3 (aY (List.take (x_2.2.2+(1:Int)).toNat (List.drop (((aa x.1).1.getD x_1.2.2.2.toNat ((0:Int),(0:Int),(0:Int),(0:Int),false)).1+(1:Int)).toNat (List.take (((aa x.1).1.getD x_1.2.2.2.toNat ((0:Int),(0:Int),(0:Int),(0:Int),false)).1+(1:Int)+((aa x.1).1.getD x_1.2.2.2.toNat ((0:Int),(0:Int),(0:Int),(0:Int),false)).2.1).toNat x.1))))):Int))∧((↑(List.drop (((aa x.1).1.getD x_1.2.2.2.toNat ((0:Int),(0:Int),(0:Int),(0:Int),false)).1+(1:Int)).toNat (List.take (((aa x.1).1.getD x_1.2.2.2.toNat ((0:Int),(0:Int),(0:Int),(0:Int),false)).1+(1:Int)+((aa x.1).1.getD x_1.2.2.2.toNat ((0:Int),(0:Int),(0:Int),(0:Int),false)).2.1).toNat x.1)).length:Int) - (x_2.2.2+(1:Int))).toNat<((↑(List.drop (((aa x.1).1.getD x_1.2.2.2.toNat ((0:Int),(0:Int),(0:Int),(0:Int),false)).1+(1:Int)).toNat (List.take (((aa x.1).1.getD x_1.2.2.2.toNat ((0:Int),(0:Int),(0:Int),(0:Int),false)).1+(1:Int)+((aa x.1).1.getD x_1.2.2.2.toNat ((0:Int),(0:Int),(0:Int),(0:Int),false)).2.1).toNat x.1)).length:Int) - x_2.2.2).toNat)∧(decide ((List.drop (((aa x.1).1.getD x_1.2.2.2.toNat ((0:Int),(0:Int),(0:Int),(0:Int),false)).1+(1:Int)).toNat (List.take (((aa x.1).1.getD x_1.2.2.2.toNat ((0:Int),(0:Int),(0:Int),(0:Int),false)).1+(1:Int)+((aa x.1).1.getD x_1.2.2.2.toNat ((0:Int),(0:Int),(0:Int),(0:Int),false)).2.1).toNat x.1)).getD x_2.2.2.toNat (0:Int)≠(0:Int))=false→aj IntKind.i64 (x_2.2.2+(1:Int))∧((0:Int)≤x_2.2.2+(1:Int)∧x_2.2.2+(1:Int)≤(↑(List.drop (((aa x.1).1.getD x_1.2.2.2.toNat ((0:Int),(0:Int),(0:Int),(0:Int),false)).1+(1:Int)).toNat (List.take (((aa x.1).1.getD x_1.2.2.2.toNat ((0:Int),(0:Int),(0:Int),(0:Int),false)).1+(1:Int)+((aa x.1).1.getD x_1.2.2.2.toNat ((0:Int),(0:Int),(0:Int),(0:Int),false)).2.1).toNat x.1)).length:Int)∧x_2.1.1=((aa x.1).1.getD x_1.2.2.2.toNat ((0:Int),(0:Int),(0:Int),(0:Int),false)).1∧x_2.1.2.1=(aM (List.map (fun (e:Int×List Int)=>(e.1,some e.2)) x_1.2.1) ((aa x.1).1.getD x_1.2.2.2.toNat ((0:Int),(0:Int),(0:Int),(0:Int),false)).1 none,([]:List Int)).1∧x_2.1.2.2=(aM (List.map (fun (e:Int×List Int)=>(e.1,some e.2)) x_1.2.1) ((aa x.1).1.getD x_1.2.2.2.toNat ((0:Int),(0:Int),(0:Int),(0:Int),false)).1 none,([]:List Int)).2++aY (List.take (x_2.2.2+(1:Int)).toNat (List.drop (((aa x.1).1.getD x_1.2.2.2.toNat ((0:Int),(0:Int),(0:Int),(0:Int),false)).1+(1:Int)).toNat (List.take (((aa x.1).1.getD x_1.2.2.2.toNat ((0:Int),(0:Int),(0:Int),(0:Int),false)).1+(1:Int)+((aa x.1).1.getD x_1.2.2.2.toNat ((0:Int),(0:Int),(0:Int),(0:Int),false)).2.1).toNat x.1)))∧∀ (x_3:Int),(ae x_2.2.1 x_3).getD (0:Int)=(ae x_1.2.2.1 x_3).getD (0:Int)+(↑(List.count x_3 (aY (List.take (x_2.2.2+(1:Int)).toNat (List.drop (((aa x.1).1.getD x_1.2.2.2.toNat ((0:Int),(0:Int),(0:Int),(0:Int),false)).1+(1:Int)).toNat (List.take (((aa x.1).1.getD x_1.2.2.2.toNat ((0:Int),(0:Int),(0:Int),(0:Int),false)).1+(1:Int)+((aa x.1).1.getD x_1.2.2.2.toNat ((0:Int),(0:Int),(0:Int),(0:Int),false)).2.1).toNat x.1))))):Int))∧((↑(List.drop (((aa x.1).1.getD x_1.2.2.2.toNat ((0:Int),(0:Int),(0:Int),(0:Int),false)).1+(1:Int)).toNat (List.take (((aa x.1).1.getD x_1.2.2.2.toNat ((0:Int),(0:Int),(0:Int),(0:Int),false)).1+(1:Int)+((aa x.1).1.getD x_1.2.2.2.toNat ((0:Int),(0:Int),(0:Int),(0:Int),false)).2.1).toNat x.1)).length:Int) - (x_2.2.2+(1:Int))).toNat<((↑(List.drop (((aa x.1).1.getD x_1.2.2.2.toNat ((0:Int),(0:Int),(0:Int),(0:Int),false)).1+(1:Int)).toNat (List.take (((aa x.1).1.getD x_1.2.2.2.toNat ((0:Int),(0:Int),(0:Int),(0:Int),false)).1+(1:Int)+((aa x.1).1.getD x_1.2.2.2.toNat ((0:Int),(0:Int),(0:Int),(0:Int),false)).2.1).toNat x.1)).length:Int) - x_2.2.2).toNat))∧(decide (x_2.2.2<(↑(List.drop (((aa x.1).1.getD x_1.2.2.2.toNat ((0:Int),(0:Int),(0:Int),(0:Int),false)).1+(1:Int)).toNat (List.take (((aa x.1).1.getD x_1.2.2.2.toNat ((0:Int),(0:Int),(0:Int),(0:Int),false)).1+(1:Int)+((aa x.1).1.getD x_1.2.2.2.toNat ((0:Int),(0:Int),(0:Int),(0:Int),false)).2.1).toNat x.1)).length:Int))=false→aj IntKind.i64 (x_1.2.2.2+(1:Int))∧((0:Int)≤x_1.2.2.2+(1:Int)∧x_1.2.2.2+(1:Int)≤(↑(aa x.1).1.length:Int)∧x_1.1.1++[((aa x.1).1.getD x_1.2.2.2.toNat ((0:Int),(0:Int),(0:Int),(0:Int),false)).1]=ab (List.take (x_1.2.2.2+(1:Int)).toNat (aa x.1).1)∧(∀ (x_3:Int),ae (List.map (fun (e:Int×Option (List Int))=>(e.1,e.2.getD x_2.1.2.2)) x_2.1.2.1) x_3=if bp (ab (List.take (x_1.2.2.2+(1:Int)).toNat (aa x.1).1)) x_3=true then some (ay x.1 x_3) else none)∧∀ (x_3:Int),(ae x_2.2.1 x_3).getD (0:Int)=(↑(List.count x_3 (List.flatMap (ay x.1) (ab (List.take (x_1.2.2.2+(1:Int)).toNat (aa x.1).1)))):Int))∧((↑(aa x.1).1.length:Int) - (x_1.2.2.2+(1:Int))).toNat<((↑(aa x.1).1.length:Int) - x_1.2.2.2).toNat)))∧(decide (x_1.2.2.2<(↑(aa x.1).1.length:Int))=false→((x_1.1.1,(),())=(x_1.1.1,(),())∧(0:Int)≤(0:Int)∧(0:Int)≤(↑x.2.1.length:Int)∧(((List.drop (Int.toNat (0:Int)) x.2.1).all fun (x:Int)=>(ae x_1.2.1 x).isSome)=x.2.1.all fun (x:Int)=>(ae x_1.2.1 x).isSome)∧∀ (x_2:Int),(ae x_1.2.2.1 x_2).getD (0:Int)=(ae x_1.2.2.1 x_2).getD (0:Int)+(↑(List.count x_2 (List.take (Int.toNat (0:Int)) x.2.1)):Int))∧∀ (x_2:(List Int×Unit×Unit)×List (Int×Int)×Int),(x_2.1=(x_1.1.1,(),())∧(0:Int)≤x_2.2.2∧x_2.2.2≤(↑x.2.1.length:Int)∧(((List.drop x_2.2.2.toNat x.2.1).all fun (x:Int)=>(ae x_1.2.1 x).isSome)=x.2.1.all fun (x:Int)=>(ae x_1.2.1 x).isSome)∧∀ (x_3:Int),(ae x_2.2.1 x_3).getD (0:Int)=(ae x_1.2.2.1 x_3).getD (0:Int)+(↑(List.count x_3 (List.take x_2.2.2.toNat x.2.1)):Int))→(decide (x_2.2.2<(↑x.2.1.length:Int))=true→(0:Int)≤x_2.2.2∧x_2.2.2<(↑x.2.1.length:Int)∧((!(ae x_1.2.1 (x.2.1.getD x_2.2.2.toNat (0:Int))).isSome)=true→(decide ((5:Int)≠(0:Int))=true→([]:List Int)=(bD x.1 x.2.1 x.2.2).1∧(5:Int)=(bD x.1 x.2.1 x.2.2).2∧True)∧(decide ((5:Int)≠(0:Int))=false→((decide (x.2.2<(0:Int))||decide ((↑x.2.1.length:Int)≤x.2.2))=true→([]:List Int)=(bD x.1 x.2.1 x.2.2).1∧(4:Int)=(bD x.1 x.2.1 x.2.2).2∧True)∧((decide (x.2.2<(0:Int))||decide ((↑x.2.1.length:Int)≤x.2.2))=false→False)))∧((!(ae x_1.2.1 (x.2.1.getD x_2.2.2.toNat (0:Int))).isSome)=false→aj IntKind.i64 ((ae x_2.2.1 (x.2.1.getD x_2.2.2.toNat (0:Int))).getD (0:Int)+(1:Int))∧aj IntKind.i64 (x_2.2.2+(1:Int))∧((x_2.1.1,(),())=(x_1.1.1,(),())∧(0:Int)≤x_2.2.2+(1:Int)∧x_2.2.2+(1:Int)≤(↑x.2.1.length:Int)∧(((List.drop (x_2.2.2+(1:Int)).toNat x.2.1).all fun (x:Int)=>(ae x_1.2.1 x).isSome)=x.2.1.all fun (x:Int)=>(ae x_1.2.1 x).isSome)∧∀ (x_3:Int),(ae (aM x_2.2.1 (x.2.1.getD x_2.2.2.toNat (0:Int)) ((ae x_2.2.1 (x.2.1.getD x_2.2.2.toNat (0:Int))).getD (0:Int)+(1:Int))) x_3).getD (0:Int)=(ae x_1.2.2.1 x_3).getD (0:Int)+(↑(List.count x_3 (List.take (x_2.2.2+(1:Int)).toNat x.2.1)):Int))∧((↑x.2.1.length:Int) - (x_2.2.2+(1:Int))).toNat<((↑x.2.1.length:Int) - x_2.2.2).toNat))∧(decide (x_2.2.2<(↑x.2.1.length:Int))=false→(decide ((0:Int)≠(0:Int))=true→([]:List Int)=(bD x.1 x.2.1 x.2.2).1∧(0:Int)=(bD x.1 x.2.1 x.2.2).2∧True)∧(decide ((0:Int)≠(0:Int))=false→((decide (x.2.2<(0:Int))||decide ((↑x.2.1.length:Int)≤x.2.2))=true→([]:List Int)=(bD x.1 x.2.1 x.2.2).1∧(4:Int)=(bD x.1 x.2.1 x.2.2).2∧True)∧((decide (x.2.2<(0:Int))||decide ((↑x.2.1.length:Int)≤x.2.2))=false→(0:Int)≤x.2.2∧x.2.2<(↑x.2.1.length:Int)∧aj IntKind.i64 ((ae x_2.2.1 (x.2.1.getD x.2.2.toNat (0:Int))).getD (0:Int) - (1:Int))∧(DropW x.1 (dt x.2.1 x.2.2) ([]:List Int) ([]:List (Int×Int)) (aM x_2.2.1 (x.2.1.getD x.2.2.toNat (0:Int)) ((ae x_2.2.1 (x.2.1.getD x.2.2.toNat (0:Int))).getD (0:Int) - (1:Int)))∧(true=false→∀ (x_3:Int),x_3∈aC x.1 ([]:List Int)→(0:Nat)<aQ x.1 (dt x.2.1 x.2.2) (aC x.1 ([]:List Int)) x_3))∧∀ (x_3:List Int×List (Int×Int)×List (Int×Int)×Bool),DropW x.1 (dt x.2.1 x.2.2) x_3.1 x_3.2.1 x_3.2.2.1∧(x_3.2.2.2=false→∀ (x_4:Int),x_4∈aC x.1 x_3.1→(0:Nat)<aQ x.1 (dt x.2.1 x.2.2) (aC x.1 x_3.1) x_4)→(x_3.2.2.2=true→((0:Int)≤(0:Int)∧(0:Int)≤(↑x_2.1.1.length:Int)∧DropW x.1 (dt x.2.1 x.2.2) x_3.1 x_3.2.1 x_3.2.2.1∧(false=false→x_3.1=x_3.1∧∀ (x_4:Int),x_4∈List.take (Int.toNat (0:Int)) x_2.1.1→x_4∈x_3.1∨(0:Nat)<aQ x.1 (dt x.2.1 x.2.2) (aC x.1 x_3.1) x_4)∧(false=true→x_3.1.length<x_3.1.length))∧∀ (x_4:List Int×List (Int×Int)×List (Int×Int)×Bool×Int),(0:Int)≤x_4.2.2.2.2∧x_4.2.2.2.2≤(↑x_2.1.1.length:Int)∧DropW x.1 (dt x.2.1 x.2.2) x_4.1 x_4.2.1 x_4.2.2.1∧(x_4.2.2.2.1=false→x_4.1=x_3.1∧∀ (x_5:Int),x_5∈List.take x_4.2.2.2.2.toNat x_2.1.1→x_5∈x_4.1∨(0:Nat)<aQ x.1 (dt x.2.1 x.2.2) (aC x.1 x_4.1) x_5)∧(x_4.2.2.2.1=true→x_3.1.length<x_4.1.length)→(decide (x_4.2.2.2.2<(↑x_2.1.1.length:Int))=true→(0:Int)≤x_4.2.2.2.2∧x_4.2.2.2.2<(↑x_2.1.1.length:Int)∧((decide ((0:Int)<(ae x_4.2.1 (x_2.1.1.getD x_4.2.2.2.2.toNat (0:Int))).getD (0:Int))||decide ((0:Int)<(ae x_4.2.2.1 (x_2.1.1.getD x_4.2.2.2.2.toNat (0:Int))).getD (0:Int)))=true→aj IntKind.i64 (x_4.2.2.2.2+(1:Int))∧((0:Int)≤x_4.2.2.2.2+(1:Int)∧x_4.2.2.2.2+(1:Int)≤(↑x_2.1.1.length:Int)∧DropW x.1 (dt x.2.1 x.2.2) x_4.1 x_4.2.1 x_4.2.2.1∧(x_4.2.2.2.1=false→x_4.1=x_3.1∧∀ (x_5:Int),x_5∈List.take (x_4.2.2.2.2+(1:Int)).toNat x_2.1.1→x_5∈x_4.1∨(0:Nat)<aQ x.1 (dt x.2.1 x.2.2) (aC x.1 x_4.1) x_5)∧(x_4.2.2.2.1=true→x_3.1.length<x_4.1.length))∧((↑x_2.1.1.length:Int) - (x_4.2.2.2.2+(1:Int))).toNat<((↑x_2.1.1.length:Int) - x_4.2.2.2.2).toNat)∧((decide ((0:Int)<(ae x_4.2.1 (x_2.1.1.getD x_4.2.2.2.2.toNat (0:Int))).getD (0:Int))||decide ((0:Int)<(ae x_4.2.2.1 (x_2.1.1.getD x_4.2.2.2.2.toNat (0:Int))).getD (0:Int)))=false→(x_4.1.length+[x_2.1.1.getD x_4.2.2.2.2.toNat (0:Int)].length) * (8:Nat)≤aL∧((0:Int)≤(0:Int)∧(0:Int)≤(↑((ae x_1.2.1 (x_2.1.1.getD x_4.2.2.2.2.toNat (0:Int))).getD ([]:List Int)).length:Int)∧∀ (x:Int),(ae x_4.2.2.1 x).getD (0:Int)=(ae x_4.2.2.1 x).getD (0:Int) - (↑(List.count x (List.take (Int.toNat (0:Int)) ((ae x_1.2.1 (x_2.1.1.getD x_4.2.2.2.2.toNat (0:Int))).getD ([]:List Int)))):Int))∧∀ (x_5:List (Int×Int)×Int),((0:Int)≤x_5.2∧x_5.2≤(↑((ae x_1.2.1 (x_2.1.1.getD x_4.2.2.2.2.toNat (0:Int))).getD ([]:List Int)).length:Int)∧∀ (x:Int),(ae x_5.1 x).getD (0:Int)=(ae x_4.2.2.1 x).getD (0:Int) - (↑(List.count x (List.take x_5.2.toNat ((ae x_1.2.1 (x_2.1.1.getD x_4.2.2.2.2.toNat (0:Int))).getD ([]:List Int)))):Int))→(decide (x_5.2<(↑((ae x_1.2.1 (x_2.1.1.getD x_4.2.2.2.2.toNat (0:Int))).getD ([]:List Int)).length:Int))=true→(0:Int)≤x_5.2∧x_5.2<(↑((ae x_1.2.1 (x_2.1.1.getD x_4.2.2.2.2.toNat (0:Int))).getD ([]:List Int)).length:Int)∧aj IntKind.i64 ((ae x_5.1 (((ae x_1.2.1 (x_2.1.1.getD x_4.2.2.2.2.toNat (0:Int))).getD ([]:List Int)).getD x_5.2.toNat (0:Int))).getD (0:Int) - (1:Int))∧aj IntKind.i64 (x_5.2+(1:Int))∧((0:Int)≤x_5.2+(1:Int)∧x_5.2+(1:Int)≤(↑((ae x_1.2.1 (x_2.1.1.getD x_4.2.2.2.2.toNat (0:Int))).getD ([]:List Int)).length:Int)∧∀ (x:Int),(ae (aM x_5.1 (((ae x_1.2.1 (x_2.1.1.getD x_4.2.2.2.2.toNat (0:Int))).getD ([]:List Int)).getD x_5.2.toNat (0:Int)) ((ae x_5.1 (((ae x_1.2.1 (x_2.1.1.getD x_4.2.2.2.2.toNat (0:Int))).getD ([]:List Int)).getD x_5.2.toNat (0:Int))).getD (0:Int) - (1:Int))) x).getD (0:Int)=(ae x_4.2.2.1 x).getD (0:Int) - (↑(List.count x (List.take (x_5.2+(1:Int)).toNat ((ae x_1.2.1 (x_2.1.1.getD x_4.2.2.2.2.toNat (0:Int))).getD ([]:List Int)))):Int))∧((↑((ae x_1.2.1 (x_2.1.1.getD x_4.2.2.2.2.toNat (0:Int))).getD ([]:List Int)).length:Int) - (x_5.2+(1:Int))).toNat<((↑((ae x_1.2.1 (x_2.1.1.getD x_4.2.2.2.2.toNat (0:Int))).getD ([]:List Int)).length:Int) - x_5.2).toNat)∧(decide (x_5.2<(↑((ae x_1.2.1 (x_2.1.1.getD x_4.2.2.2.2.toNat (0:Int))).getD ([]:List Int)).length:Int))=false→aj IntKind.i64 (x_4.2.2.2.2+(1:Int))∧((0:Int)≤x_4.2.2.2.2+(1:Int)∧x_4.2.2.2.2+(1:Int)≤(↑x_2.1.1.length:Int)∧DropW x.1 (dt x.2.1 x.2.2) (x_4.1++[x_2.1.1.getD x_4.2.2.2.2.toNat (0:Int)]) (aM x_4.2.1 (x_2.1.1.getD x_4.2.2.2.2.toNat (0:Int)) (1:Int)) x_5.1∧(true=false→x_4.1++[x_2.1.1.getD x_4.2.2.2.2.toNat (0:Int)]=x_3.1∧∀ (x_6:Int),x_6∈List.take (x_4.2.2.2.2+(1:Int)).toNat x_2.1.1→x_6∈x_4.1++[x_2.1.1.getD x_4.2.2.2.2.toNat (0:Int)]∨(0:Nat)<aQ x.1 (dt x.2.1 x.2.2) (aC x.1 (x_4.1++[x_2.1.1.getD x_4.2.2.2.2.toNat (0:Int)])) x_6)∧(true=true→x_3.1.length<(x_4.1++[x_2.1.1.getD x_4.2.2.2.2.toNat (0:Int)]).length))∧((↑x_2.1.1.length:Int) - (x_4.2.2.2.2+(1:Int))).toNat<((↑x_2.1.1.length:Int) - x_4.2.2.2.2).toNat)))∧(decide (x_4.2.2.2.2<(↑x_2.1.1.length:Int))=false→(DropW x.1 (dt x.2.1 x.2.2) x_4.1 x_4.2.1 x_4.2.2.1∧(x_4.2.2.2.1=false→∀ (x_5:Int),x_5∈aC x.1 x_4.1→(0:Nat)<aQ x.1 (dt x.2.1 x.2.2) (aC x.1 x_4.1) x_5))∧((2:Nat) * ((256:Nat) - x_4.1.length)+if x_4.2.2.2.1=true then (1:Nat) else (0:Nat))<(2:Nat) * ((256:Nat) - x_3.1.length)+if x_3.2.2.2=true then (1:Nat) else (0:Nat)))∧(x_3.2.2.2=false→True∧db x_3.1=(bD x.1 x.2.1 x.2.2).1∧(0:Int)=(bD x.1 x.2.1 x.2.2).2∧True))))))
theorem sH:p9:=by
 unfold p9
 intro ⟨a,f,k⟩ ⟨⟨hb,hw⟩,⟨hbf,hf⟩,hk⟩ hroom tm
 unfold aL at hb hbf
 dsimp only at hb hw hbf hf hk hroom ⊢
 refine ⟨trivial,fun hc=>⟨fun _=>?_,fun hn=>by rw [hc] at hn; cases hn⟩,fun hc=>?_⟩
 ·have hc:=of_decide_eq_true hc
  have e:an a f=(ao a).2.2:=by unfold an; rw [if_pos hc]
  have e2:bD a f k=([],(ao a).2.2):=by unfold bD; rw [e,if_pos hc]
  rw [e2]
  exact ⟨rfl,rfl,trivial⟩
 have hc:(ao a).2.2=0:=by simpa using of_decide_eq_false hc
 obtain ⟨hal,_,_,hz,_,_,_⟩:=dY hc
 have hsl:=aR a
 have hbl:=aG (aa a).1
 refine ⟨trivial,⟨by omega,by omega,rfl,fun _=>rfl,fun _=>rfl⟩,fun ⟨⟨o,⟨⟩,⟨⟩⟩,mr,mm,i⟩ ⟨i0,i1,i2,i3,i4⟩=>⟨fun hlt=>?_,fun hge=>?_⟩⟩
 ·dsimp only at i0 i1 i2 i3 i4 ⊢
  have hlt:i<((aa a).1.length:Int):=of_decide_eq_true hlt
  have hm:=bk ((0,0,0,0,false):aH) i0 hlt
  have ht:=aI ((0,0,0,0,false):aH) i0 hlt
  have hol:o.length≤256:=by
   rw [i2]
   have:=aG (List.take i.toNat (aa a).1)
   rw [List.length_take] at this
   omega
  have hfl:=b9 a hal o
  rw [ht,dj,← i2]
  rw [← i2] at i3 i4
  generalize (aa a).1.getD i.toNat (0,0,0,0,false)=s at *
  refine ⟨i0,hlt,by omega,fun hf0=>?_,fun hf0=>?_⟩
  ·have e:ab [s]=[]:=by simp only [ab]; rw [if_pos hf0]
   rw [e,List.append_nil]
   exact ⟨by simp only [aj]; omega,⟨by omega,by omega,rfl,i3,i4⟩,by omega⟩
  ·have e:ab [s]=[s.1]:=by simp only [ab]; rw [if_neg (by rw [hf0]; simp)]
   obtain ⟨hib,he⟩:=gk hm hf0
   obtain ⟨l1,_,l3,l4,l5,l6⟩:=ef hib
   have hrf:=dr hw hc _ (er hib).1
   have hrs:List.drop (s.1+1).toNat (List.take (s.1+1+(mG a s.1).1).toNat a)=ch a s.1:=rfl
   have hwr:∀ v∈ch a s.1,IntKind.i64.wrap v=v∧0≤v∧v≤256:=fun v hv=>by
    rcases hrf v hv with e | ⟨h1,h2,_⟩
    ·subst e; exact ⟨eo (by omega) (by omega),by omega,by omega⟩
    ·exact ⟨eo (by omega) (by omega),by omega,by omega⟩
   rw [e,he,hrs]
   have hO:ay a s.1=aY (ch a s.1):=rfl
   generalize hrs0:ch a s.1=rs at *
   generalize hx0:s.1=x at *
   simp only [aj]
   refine ⟨by unfold aL; rw [List.length_singleton]; omega,by omega,by omega,by omega,by omega,by omega,by omega,⟨by omega,by omega,trivial,trivial,rfl,fun _=>by simp [aY]⟩,fun ⟨⟨x0,m,ys⟩,mm2,j⟩ ⟨j0,j1,j2,j3,j4,j5⟩=>⟨fun hj=>?_,fun hj=>?_⟩⟩
   ·dsimp only at j0 j1 j2 j3 j4 j5 ⊢
    have hj:j<(rs.length:Int):=of_decide_eq_true hj
    have ht2:=aI (0:Int) j0 hj
    have hv:=bk (0:Int) j0 hj
    have hcl:=List.count_le_length (a:=rs.getD j.toNat 0 - 1) (l:=aY (rs.take j.toNat))
    have hcl2:=List.count_le_length (a:=rs.getD j.toNat 0 - 1) (l:=o.flatMap (ay a))
    have hql:(aY (rs.take j.toNat)).length≤rs.length:=by
     unfold aY
     rw [List.length_map]
     refine Nat.le_trans (List.length_filter_le _ _) ?_
     rw [List.length_take]
     omega
    rw [ht2,ic]
    have q5:=j5 (rs.getD j.toNat 0 - 1)
    have q4:=i4 (rs.getD j.toNat 0 - 1)
    generalize hv0:rs.getD j.toNat 0=v at *
    obtain ⟨w1,w2,w3⟩:=hwr v hv
    rw [w1]
    have hys:ys.length≤256:=by rw [j4]; simp only [List.nil_append]; omega
    refine ⟨j0,hj,fun hne=>?_,fun hne=>?_⟩
    ·have hne:=of_decide_eq_true hne
     rw [if_neg hne]
     refine ⟨j2.symm,by omega,by unfold aL; rw [List.length_singleton]; omega,trivial,j2.symm,by omega,by omega,by omega,⟨by omega,by omega,j2,j3,?_,fB j5⟩,by omega⟩
     rw [j4,List.nil_append]
     rfl
    ·have hne:v=0:=by simpa using of_decide_eq_false hne
     rw [if_pos hne,List.append_nil]
     exact ⟨by omega,⟨by omega,by omega,j2,j3,j4,j5⟩,by omega⟩
   ·dsimp only at j0 j1 j2 j3 j4 j5 ⊢
    have hj:¬ j<(rs.length:Int):=of_decide_eq_false hj
    rw [aX hj] at j4 j5
    have hys:ys=ay a x:=by rw [j4,List.nil_append]; exact hO.symm
    have hcm:=f0 x ys mr
    have j3:m=aM (mr.map fun e=>(e.1,some e.2)) x none:=j3
    refine ⟨by omega,⟨by omega,by omega,trivial,fun z=>?_,fun z=>?_⟩,by omega⟩
    ·have e3:List.map (fun (e:Int×Option (List Int))=>(e.1,e.2.getD ys)) m=aM mr x (ay a x):=by rw [j3,hcm,hys]
     exact (congrArg (fun l=>ae l z) e3).trans (lx i3 z)
    ·rw [j5 z,i4 z,← hO,List.flatMap_append,List.count_append]
     simp
 dsimp only at i0 i1 i2 i3 i4 ⊢
 have hge:¬ i<((aa a).1.length:Int):=of_decide_eq_false hge
 rw [aX hge] at i2 i3 i4
 have hsome:∀ x,(ae mr x).isSome=isB (aa a).1 x:=fun x=>by rw [i3 x,aS]; cases isB (aa a).1 x <;> rfl
 have hol:o.length≤256:=by rw [i2]; omega
 have hfl:=b9 a hal (ab (aa a).1)
 refine ⟨⟨rfl,by omega,by omega,rfl,fun _=>by simp⟩,fun ⟨b,mm2,j⟩ ⟨j4,j0,j1,j2,j3⟩=>⟨fun hlt=>?_,fun hge=>?_⟩⟩
 ·dsimp only at j0 j1 j2 j3 j4 ⊢
  subst j4
  have hlt:j<(f.length:Int):=of_decide_eq_true hlt
  have ht:=aI (0:Int) j0 hlt
  have hcl:=List.count_le_length (a:=f.getD j.toNat 0) (l:=f.take j.toNat)
  have hcl2:=List.count_le_length (a:=f.getD j.toNat 0) (l:=(ab (aa a).1).flatMap (ay a))
  rw [List.length_take] at hcl
  have q3:=j3 (f.getD j.toNat 0)
  have q4:=i4 (f.getD j.toNat 0)
  have hs:=hsome (f.getD j.toNat 0)
  simp only [hsome] at j2 ⊢
  rw [aV (0:Int) j0 hlt,List.all_cons] at j2
  rw [ht]
  refine ⟨j0,hlt,fun hn=>⟨fun _=>?_,fun h=>by simp at h⟩,fun hn=>⟨by simp only [aj]; omega,by simp only [aj]; omega,⟨trivial,by omega,by omega,?_,fB j3⟩,by omega⟩⟩
  ·have hn:isB (aa a).1 (f.getD j.toNat 0)=false:=by simpa using hn
   rw [hn,Bool.false_and] at j2
   have e:an a f=5:=by unfold an; rw [if_neg (by omega),← j2]; rfl
   have e2:bD a f k=([],5):=by unfold bD; rw [e]; rfl
   rw [e2]
   exact ⟨rfl,rfl,trivial⟩
  ·have hn:isB (aa a).1 (f.getD j.toNat 0)=true:=by simpa using hn
   rw [hn,Bool.true_and] at j2
   exact j2
 dsimp only at j0 j1 j2 j3 j4 ⊢
 subst j4
 have hge:¬ j<(f.length:Int):=of_decide_eq_false hge
 simp only [hsome] at j2
 rw [br hge,List.all_nil] at j2
 rw [aX hge] at j3
 have hfb:∀ x∈f,isB (aa a).1 x=true:=List.all_eq_true.1 j2.symm
 have e0:an a f=0:=ev hc hfb
 have hcnt:∀ x,(ae mm2 x).getD 0=(aQ a f (ab (aa a).1) x:Int):=fun x=>by
  rw [j3 x,i4 x]
  unfold aQ
  omega
 refine ⟨fun h=>by simp at h,fun _=>?_⟩
 refine ⟨fun hbad=>?_,fun hok=>?_⟩
 ·have hbad:k<0∨(f.length:Int)≤k:=by simpa using hbad
  have e2:bD a f k=([],4):=by unfold bD; rw [if_neg (by omega),if_pos hbad]
  rw [e2]
  exact ⟨rfl,rfl,trivial⟩
 have hok:¬ (k<0∨(f.length:Int)≤k):=by
  intro h
  have:(decide (k<0)||decide ((f.length:Int)≤k))=true:=by simpa using h
  rw [this] at hok
  cases hok
 have hD:bD a f k=(g7 a (dt f k),0):=by unfold bD; rw [if_neg (by omega),if_neg hok]
 rw [hD]
 have hcK:∀ x,f.count x=(dt f k).count x+(if f.getD k.toNat 0=x then 1 else 0):=fun x=>mo x f k.toNat (by omega)
 have hfK:(dt f k).length≤f.length:=by
  unfold dt
  simp only [List.length_append,List.length_take,List.length_drop]
  omega
 have hl0:aC a []=ab (aa a).1:=List.filter_eq_self.2 fun x _=>rfl
 have hbo:∀ l x,l.length≤256→aQ a (dt f k) l x≤(dt f k).length+65536:=fun l x hl=>n9 hal _ _ _ hl
 have hcb:=n9 hal f (ab (aa a).1) (f.getD k.toNat 0) (by omega)
 have hcv:=hcnt (f.getD k.toNat 0)
 generalize dt f k=g at *
 refine ⟨by omega,by omega,by simp only [aj]; omega,⟨⟨Goes.nil a g,fun x=>by simp [ae],fun x=>?_⟩,fun h=>(by cases h)⟩,fun ⟨out,mg,mm3,ag⟩ ⟨hW,hp⟩=>⟨fun hag=>?_,fun hag=>?_⟩⟩
 ·rw [cH,hl0]
  have h1:=hcnt x
  have h2:=hcK x
  unfold aQ at h1 ⊢
  by_cases e:x=f.getD k.toNat 0
  ·subst e
   rw [if_pos rfl] at h2
   rw [if_pos rfl,Option.getD_some]
   omega
  ·rw [if_neg (fun q=>e q.symm)] at h2
   rw [if_neg e]
   omega
 ·dsimp only at hW hp hag ⊢
  have hlen0:=hW.goes.len
  refine ⟨⟨by omega,by omega,hW,fun _=>⟨rfl,fun x hx=>(by simp at hx)⟩,fun h=>(by cases h)⟩,fun ⟨out1,mg1,mm1,ag1,i⟩ ⟨i0,i1,W,q1,q2⟩=>⟨fun hlt=>?_,fun hge=>?_⟩⟩
  ·dsimp only at i0 i1 W q1 q2 ⊢
   have hlt:i<(o.length:Int):=of_decide_eq_true hlt
   have ht:=aI (0:Int) i0 hlt
   have hx:=bk (0:Int) i0 hlt
   rw [i2] at hx
   have hib:isB (aa a).1 (o.getD i.toNat 0)=true:=by
    rw [i2,← aS]
    exact bi.2 hx
   have hlen:=W.goes.len
   rw [ht]
   have hmr:(ae mr (o.getD i.toNat 0)).getD []=ay a (o.getD i.toNat 0):=by
    rw [i3,aS,if_pos hib]
    rfl
   rw [hmr]
   generalize o.getD i.toNat 0=x at *
   refine ⟨i0,hlt,fun hcd=>?_,fun hcd=>?_⟩
   ·refine ⟨by simp only [aj]; omega,⟨by omega,by omega,W,fun h=>⟨(q1 h).1,fun y hy=>?_⟩,q2⟩,by omega⟩
    rcases List.mem_append.1 hy with hy | hy
    ·exact (q1 h).2 y hy
    ·rw [List.mem_singleton.1 hy]
     simp only [Bool.or_eq_true,decide_eq_true_eq] at hcd
     rcases hcd with hcd | hcd
     ·exact .inl ((W.gone x).1 hcd)
     ·rw [W.many x] at hcd
      exact .inr (by omega)
   ·simp only [Bool.or_eq_false_iff,decide_eq_false_iff_not] at hcd
    obtain ⟨c1,c2⟩:=hcd
    rw [W.gone x] at c1
    rw [W.many x] at c2
    have hxl:x∈aC a out1:=dK.2 ⟨hib,c1⟩
    have hdrop:=fun z=>uN (f:=g) (z:=z) hxl
    have hgo:=W.goes.snoc hxl (by omega)
    have hol2:=kh a x
    have hll:=ks a out1
    generalize ay a x=rs at *
    refine ⟨by unfold aL; rw [List.length_singleton]; omega,⟨by omega,by omega,fun _=>by simp⟩,fun ⟨mm4,j⟩ ⟨j0,j1,j2⟩=>⟨fun hj=>?_,fun hj=>?_⟩⟩
    ·dsimp only at j0 j1 j2 ⊢
     have hj:j<(rs.length:Int):=of_decide_eq_true hj
     have hcl:=List.count_le_length (a:=rs.getD j.toNat 0) (l:=rs.take j.toNat)
     rw [List.length_take] at hcl
     have p1:=j2 (rs.getD j.toNat 0)
     have p2:=W.many (rs.getD j.toNat 0)
     have p3:=hbo (aC a out1) (rs.getD j.toNat 0) hll
     rw [aI (0:Int) j0 hj]
     exact ⟨j0,hj,by simp only [aj]; omega,by simp only [aj]; omega,⟨by omega,by omega,ui j2⟩,by omega⟩
    ·dsimp only at j0 j1 j2 ⊢
     rw [aX (of_decide_eq_false hj)] at j2
     refine ⟨by simp only [aj]; omega,⟨by omega,by omega,⟨hgo,fun y=>?_,fun y=>?_⟩,fun h=>(by cases h),fun _=>?_⟩,by omega⟩
     ·rw [cH,List.mem_append,List.mem_singleton]
      by_cases e:y=x
      ·rw [if_pos e]
       simp [e]
      ·rw [if_neg e,W.gone y]
       simp [e]
     ·have p1:=j2 y
      have p2:=W.many y
      have p3:=hdrop y
      omega
     ·rw [List.length_append,List.length_singleton]
      cases ag1 with
      | true=>have:=q2 rfl; omega
      | false=>have:=(q1 rfl).1; rw [this]; omega
  ·dsimp only at i0 i1 W q1 q2 ⊢
   have hge:¬ i<(o.length:Int):=of_decide_eq_false hge
   rw [aX hge] at q1
   have hlen:=W.goes.len
   refine ⟨⟨W,fun h x hx=>?_⟩,?_⟩
   ·obtain ⟨h1,h2⟩:=dK.1 hx
    rw [← aS] at h1
    rcases (q1 h).2 x (by rw [i2]; exact bi.1 h1) with h3 | h3
    ·exact absurd h3 h2
    ·exact h3
   ·rw [if_pos hag]
    cases ag1 with
    | true=>have:=q2 rfl; rw [if_pos rfl]; omega
    | false=>have:=(q1 rfl).1; rw [this,if_neg (by simp)]; omega
 ·dsimp only at hW hp hag ⊢
  exact ⟨trivial,hW.goes.sorted (hp hag),rfl,trivial⟩
theorem ud:tP.ok Try.prog 28:=bJ (ann:=uR) (ai eq (ai dI (r9 qi aJ))) Try.func28 (by kernel_rfl) sH
end Go.Proofs.Ytcnoiiohmpgckaa
