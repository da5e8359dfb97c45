
import Derived.Test.YtglchojglcobjaaGreatDeeds
namespace Go.Proofs.YtglchojglcobjaaGreat
open Go
set_option maxRecDepth 100000
set_option maxHeartbeats 1000000
set_option maxHeartbeats 8000000
def GK:Nat→Option LoopGen
 | 3000051=>some gi
 | 5204000001=>some gi
 | 3000059=>some gi
 | 3000060=>some gi
 | 1000018=>some { rd:=[.dat 155 ty_I],A:=fun (k:Int)=>{ cs:=[.dat 156 .bool],inv:=fun (b:Bool)=>b=de k,mu:=fun _=>0 } }
 | 1000028=>some { rd:=[.dat 155 ty_I],A:=fun (k:Int)=>{ cs:=[.dat 195 .bool],inv:=fun (b:Bool)=>b=eR k,mu:=fun _=>0 } }
 | 1000023=>some { rd:=[.box 2 bu,.box 3 Hx],A:=fun ((s,k,a,_):aq×Int×Int×Int×Int×Int)=>{ cs:=[.dat 16 ty_I,.box 17 cN,.box 4 bu],inv:=fun ((x,h,_):Int×da×aq)=>(de k=true→0≤a∧a<s.2.1.length∧0≤bq s a∧x=bq s a∧h=dD s.1 x)∧(eR k=true→0≤a∧a<s.2.1.length),mu:=fun _=>0 } }
 | 1000049=>some { rd:=[.dat 210 ty_I],A:=fun (k:Int)=>{ cs:=[.dat 267 .bool],inv:=fun (b:Bool)=>b=(decide (k=3)||decide (k=4)),mu:=fun _=>0 } }
 | 1000059=>some { rd:=[.dat 210 ty_I],A:=fun (k:Int)=>{ cs:=[.dat 328 .bool],inv:=fun (b:Bool)=>b=(decide (k=5)||decide (k=6)),mu:=fun _=>0 } }
 | 1000100=>some { rd:=[.dat 210 ty_I],A:=fun (k:Int)=>{ cs:=[.dat 535 .bool],inv:=fun (b:Bool)=>b=(decide (k=11)||decide (k=12)),mu:=fun _=>0 } }
 | 92=>some { rd:=[.box 2 bu],A:=fun (s:aq)=>{ cs:=[.dat 499 ty_I,.boxS 10 [.own 50 be,.own 3 ty_I,.own 89 cW,.own 87 b7],.box 4 bu],inv:=fun ((i,b,_):Int×aq×aq)=>0≤i∧i≤s.2.2.2.length∧b=s∧aj ci i (s.2.2.2.drop i.toNat)=aj ci 0 s.2.2.2,mu:=fun ((i,_):Int×aq×aq)=>(s.2.2.2.length - i).toNat } }
 | _=>none
def Fj:Spec:={ Ts:=[bu,Hx],Rs:=[.dat bu,.dat be,.dat ty_I],al:=true,pre:=fun _=>True,F:=fun ((s,k,a,b,c,v):aq×Int×Int×Int×Int×Int)=>aJ s k a b c v }
def zB:Prop :=
  ∀ (x:(List Int×List Int×List (Int×Int)×List (Int×Bool×Int))×Int×Int×Int×Int×Int),((x.1.1.length * 8≤az∧∀ (x_1:Int),x_1∈x.1.1→ak IntKind.u64 x_1)∧(x.1.2.1.length * 8≤az∧∀ (x_1:Int),x_1∈x.1.2.1→ak IntKind.i64 x_1)∧(x.1.2.2.1.length * (8+8)≤az∧∀ (x_1:Int×Int),x_1∈x.1.2.2.1→ak IntKind.i64 x_1.1∧ak IntKind.i64 x_1.2)∧x.1.2.2.2.length * (8+(8+8))≤az∧∀ (x_1:Int×Bool×Int),x_1∈x.1.2.2.2→ak IntKind.i64 x_1.1∧True∧ak IntKind.i64 x_1.2.2)∧ak IntKind.i64 x.2.1∧ak IntKind.i64 x.2.2.1∧ak IntKind.i64 x.2.2.2.1∧ak IntKind.i64 x.2.2.2.2.1∧ak IntKind.u64 x.2.2.2.2.2→True→∀ (_:Array Value),True∧x.1.2.1.length * 8≤az∧x.1.2.2.1.length * (8+8)≤az∧x.1.2.1=x.1.2.1∧x.1.2.2.1=x.1.2.2.1∧x.1.2.2.1=x.1.2.2.1∧x.1.2.2.2=x.1.2.2.2∧x.1.2.2.2=x.1.2.2.2∧x.1.2.2.2=x.1.2.2.2∧x.1.2.2.2.length * (8+(8+8))≤az∧((decide (x.2.1<1)||decide (13<x.2.1)||!(decide (x.2.1≠2)&&decide (x.2.1≠12))&&decide (x.2.2.1≠0)||!(decide (x.2.1=1)||decide (3≤x.2.1)&&decide (x.2.1≤6)||decide (x.2.1=9))&&decide (x.2.2.2.1≠0)||!(decide (x.2.1=1)||decide (x.2.1=3)||decide (x.2.1=4))&&decide (x.2.2.2.2.1≠0)||!(decide (x.2.1=1)||decide (x.2.1=6)||decide (x.2.1=11)||decide (x.2.1=12))&&decide (x.2.2.2.2.2≠0))=true→∀ (_:Array Value),(([]:List Int),([]:List Int),([]:List (Int×Int)),([]:List (Int×Bool×Int)))=(aJ x.1 x.2.1 x.2.2.1 x.2.2.2.1 x.2.2.2.2.1 x.2.2.2.2.2).1∧0=(aJ x.1 x.2.1 x.2.2.1 x.2.2.2.1 x.2.2.2.2.1 x.2.2.2.2.2).2.1∧1=(aJ x.1 x.2.1 x.2.2.1 x.2.2.2.1 x.2.2.2.2.1 x.2.2.2.2.2).2.2∧True)∧((decide (x.2.1<1)||decide (13<x.2.1)||!(decide (x.2.1≠2)&&decide (x.2.1≠12))&&decide (x.2.2.1≠0)||!(decide (x.2.1=1)||decide (3≤x.2.1)&&decide (x.2.1≤6)||decide (x.2.1=9))&&decide (x.2.2.2.1≠0)||!(decide (x.2.1=1)||decide (x.2.1=3)||decide (x.2.1=4))&&decide (x.2.2.2.2.1≠0)||!(decide (x.2.1=1)||decide (x.2.1=6)||decide (x.2.1=11)||decide (x.2.1=12))&&decide (x.2.2.2.2.2≠0))=false→True∧(decide (aO x.1≠0)=true→∀ (_:Array Value),(([]:List Int),([]:List Int),([]:List (Int×Int)),([]:List (Int×Bool×Int)))=(aJ x.1 x.2.1 x.2.2.1 x.2.2.2.1 x.2.2.2.2.1 x.2.2.2.2.2).1∧0=(aJ x.1 x.2.1 x.2.2.1 x.2.2.2.1 x.2.2.2.2.1 x.2.2.2.2.2).2.1∧aO x.1=(aJ x.1 x.2.1 x.2.2.1 x.2.2.2.1 x.2.2.2.2.1 x.2.2.2.2.2).2.2∧True)∧(decide (aO x.1≠0)=false→((decide (x.2.1=3)=true→decide (x.2.1=3)=de x.2.1)∧(decide (x.2.1=3)=false→(decide (x.2.1=4)=true→decide (x.2.1=4)=de x.2.1)∧(decide (x.2.1=4)=false→(decide (x.2.1=5)=true→decide (x.2.1=5)=de x.2.1)∧(decide (x.2.1=5)=false→(decide (x.2.1=6)=true→decide (x.2.1=6)=de x.2.1)∧(decide (x.2.1=6)=false→(decide (x.2.1=7)=true→decide (x.2.1=7)=de x.2.1)∧(decide (x.2.1=7)=false→decide (x.2.1=10)=de x.2.1))))))∧∀ (x_1:Bool),x_1=de x.2.1→((x_1=true→∀ (_:Array Value),((!(decide (0≤x.2.2.1)&&decide (x.2.2.1<(↑x.1.2.1.length:Int))))=false→0≤x.2.2.1)∧((!(decide (0≤x.2.2.1)&&decide (x.2.2.1<(↑x.1.2.1.length:Int))))=false→x.2.2.1<(↑x.1.2.1.length:Int))∧((!(decide (0≤x.2.2.1)&&decide (x.2.2.1<(↑x.1.2.1.length:Int)))||decide (x.1.2.1.getD x.2.2.1.toNat (0:Int)<0))=true→∀ (_:Array Value),(([]:List Int),([]:List Int),([]:List (Int×Int)),([]:List (Int×Bool×Int)))=(aJ x.1 x.2.1 x.2.2.1 x.2.2.2.1 x.2.2.2.2.1 x.2.2.2.2.2).1∧0=(aJ x.1 x.2.1 x.2.2.1 x.2.2.2.1 x.2.2.2.2.1 x.2.2.2.2.2).2.1∧5=(aJ x.1 x.2.1 x.2.2.1 x.2.2.2.1 x.2.2.2.2.1 x.2.2.2.2.2).2.2∧True)∧((!(decide (0≤x.2.2.1)&&decide (x.2.2.1<(↑x.1.2.1.length:Int)))||decide (x.1.2.1.getD x.2.2.1.toNat (0:Int)<0))=false→0≤x.2.2.1∧x.2.2.1<(↑x.1.2.1.length:Int)∧True∧(de x.2.1=true→0≤x.2.2.1∧x.2.2.1<(↑x.1.2.1.length:Int)∧0≤bq x.1 x.2.2.1∧x.1.2.1.getD x.2.2.1.toNat 0=bq x.1 x.2.2.1∧(ah (x.1.2.1.getD x.2.2.1.toNat 0) (aa x.1.1).1).1=dD x.1.1 (x.1.2.1.getD x.2.2.1.toNat 0))∧(eR x.2.1=true→0≤x.2.2.1∧x.2.2.1<(↑x.1.2.1.length:Int))))∧(x_1=false→((decide (x.2.1=1)=true→decide (x.2.1=1)=eR x.2.1)∧(decide (x.2.1=1)=false→(decide (x.2.1=11)=true→decide (x.2.1=11)=eR x.2.1)∧(decide (x.2.1=11)=false→decide (x.2.1=13)=eR x.2.1)))∧∀ (x_2:Bool),x_2=eR x.2.1→(x_2=true→∀ (_:Array Value),((!(decide (0≤x.2.2.1)&&decide (x.2.2.1<(↑x.1.2.1.length:Int))))=true→∀ (_:Array Value),(([]:List Int),([]:List Int),([]:List (Int×Int)),([]:List (Int×Bool×Int)))=(aJ x.1 x.2.1 x.2.2.1 x.2.2.2.1 x.2.2.2.2.1 x.2.2.2.2.2).1∧0=(aJ x.1 x.2.1 x.2.2.1 x.2.2.2.1 x.2.2.2.2.1 x.2.2.2.2.2).2.1∧5=(aJ x.1 x.2.1 x.2.2.1 x.2.2.2.1 x.2.2.2.2.1 x.2.2.2.2.2).2.2∧True)∧((!(decide (0≤x.2.2.1)&&decide (x.2.2.1<(↑x.1.2.1.length:Int))))=false→(de x.2.1=true→0≤x.2.2.1∧x.2.2.1<(↑x.1.2.1.length:Int)∧0≤bq x.1 x.2.2.1∧0=bq x.1 x.2.2.1∧(0,0,0,false)=dD x.1.1 0)∧(eR x.2.1=true→0≤x.2.2.1∧x.2.2.1<(↑x.1.2.1.length:Int))))∧(x_2=false→(de x.2.1=true→0≤x.2.2.1∧x.2.2.1<(↑x.1.2.1.length:Int)∧0≤bq x.1 x.2.2.1∧0=bq x.1 x.2.2.1∧(0,0,0,false)=dD x.1.1 0)∧(eR x.2.1=true→0≤x.2.2.1∧x.2.2.1<(↑x.1.2.1.length:Int)))))∧∀ (x_2:Int×(Int×Int×Int×Bool)×List Int×List Int×List (Int×Int)×List (Int×Bool×Int)),(de x.2.1=true→0≤x.2.2.1∧x.2.2.1<(↑x.1.2.1.length:Int)∧0≤bq x.1 x.2.2.1∧x_2.1=bq x.1 x.2.2.1∧x_2.2.1=dD x.1.1 x_2.1)∧(eR x.2.1=true→0≤x.2.2.1∧x.2.2.1<(↑x.1.2.1.length:Int))→(decide (x.2.1=1)=true→0≤x.2.2.2.2.2∧(0:Int)<65536∧True∧(decide (ac (x.2.2.2.1,x.2.2.2.2.1,IntKind.i64.wrap (x.2.2.2.2.2 % 65536),false)≠0)=true→∀ (_:Array Value),(([]:List Int),([]:List Int),([]:List (Int×Int)),([]:List (Int×Bool×Int)))=(aJ x.1 x.2.1 x.2.2.1 x.2.2.2.1 x.2.2.2.2.1 x.2.2.2.2.2).1∧0=(aJ x.1 x.2.1 x.2.2.1 x.2.2.2.1 x.2.2.2.2.1 x.2.2.2.2.2).2.1∧ac (x.2.2.2.1,x.2.2.2.2.1,IntKind.i64.wrap (x.2.2.2.2.2 % 65536),false)=(aJ x.1 x.2.1 x.2.2.1 x.2.2.2.1 x.2.2.2.2.1 x.2.2.2.2.2).2.2∧True)∧(decide (ac (x.2.2.2.1,x.2.2.2.2.1,IntKind.i64.wrap (x.2.2.2.2.2 % 65536),false)≠0)=false→(lr x.1 (x.2.2.2.1,x.2.2.2.2.1,IntKind.i64.wrap (x.2.2.2.2.2 % 65536),false)∧0≤x.2.2.1∧x.2.2.1<(↑x.1.2.1.length:Int))∧((cb x.1 x.2.2.1 (x.2.2.2.1,x.2.2.2.2.1,IntKind.i64.wrap (x.2.2.2.2.2 % 65536),false)).2=true→(cb x.1 x.2.2.1 (x.2.2.2.1,x.2.2.2.2.1,IntKind.i64.wrap (x.2.2.2.2.2 % 65536),false)).1=(aJ x.1 x.2.1 x.2.2.1 x.2.2.2.1 x.2.2.2.2.1 x.2.2.2.2.2).1∧0=(aJ x.1 x.2.1 x.2.2.1 x.2.2.2.1 x.2.2.2.2.1 x.2.2.2.2.2).2.1∧0=(aJ x.1 x.2.1 x.2.2.1 x.2.2.2.1 x.2.2.2.2.1 x.2.2.2.2.2).2.2∧True)∧((cb x.1 x.2.2.1 (x.2.2.2.1,x.2.2.2.2.1,IntKind.i64.wrap (x.2.2.2.2.2 % 65536),false)).2=false→aO x.1=0∧(lr (aT x.1) (x.2.2.2.1,x.2.2.2.2.1,IntKind.i64.wrap (x.2.2.2.2.2 % 65536),false)∧0≤x.2.2.1∧x.2.2.1<(↑(aT x.1).2.1.length:Int))∧x.1.1=x.1.1∧x.1.2.1=x.1.2.1∧x.1.2.2.1=x.1.2.2.1∧x.1.2.2.2=x.1.2.2.2∧aO x.1=0∧(aT x.1).1=(aT x.1).1∧(aT x.1).2.1=(aT x.1).2.1∧(aT x.1).2.2.1=(aT x.1).2.2.1∧(aT x.1).2.2.2=(aT x.1).2.2.2∧x.2.2.1=x.2.2.1∧x.2.2.2.1=x.2.2.2.1∧x.2.2.2.2.1=x.2.2.2.2.1∧IntKind.i64.wrap (x.2.2.2.2.2 % 65536)=IntKind.i64.wrap (x.2.2.2.2.2 % 65536)∧false=false∧(lr (aT x.1) (x.2.2.2.1,x.2.2.2.2.1,IntKind.i64.wrap (x.2.2.2.2.2 % 65536),false)∧0≤x.2.2.1∧x.2.2.1<(↑(aT x.1).2.1.length:Int))∧(cb (aT x.1) x.2.2.1 (x.2.2.2.1,x.2.2.2.2.1,IntKind.i64.wrap (x.2.2.2.2.2 % 65536),false)).1.1=(cb (aT x.1) x.2.2.1 (x.2.2.2.1,x.2.2.2.2.1,IntKind.i64.wrap (x.2.2.2.2.2 % 65536),false)).1.1∧(cb (aT x.1) x.2.2.1 (x.2.2.2.1,x.2.2.2.2.1,IntKind.i64.wrap (x.2.2.2.2.2 % 65536),false)).1.2.1=(cb (aT x.1) x.2.2.1 (x.2.2.2.1,x.2.2.2.2.1,IntKind.i64.wrap (x.2.2.2.2.2 % 65536),false)).1.2.1∧(cb (aT x.1) x.2.2.1 (x.2.2.2.1,x.2.2.2.2.1,IntKind.i64.wrap (x.2.2.2.2.2 % 65536),false)).1.2.2.1=(cb (aT x.1) x.2.2.1 (x.2.2.2.1,x.2.2.2.2.1,IntKind.i64.wrap (x.2.2.2.2.2 % 65536),false)).1.2.2.1∧(cb (aT x.1) x.2.2.1 (x.2.2.2.1,x.2.2.2.2.1,IntKind.i64.wrap (x.2.2.2.2.2 % 65536),false)).1.2.2.2=(cb (aT x.1) x.2.2.1 (x.2.2.2.1,x.2.2.2.2.1,IntKind.i64.wrap (x.2.2.2.2.2 % 65536),false)).1.2.2.2∧(cb (aT x.1) x.2.2.1 (x.2.2.2.1,x.2.2.2.2.1,IntKind.i64.wrap (x.2.2.2.2.2 % 65536),false)).2=(cb (aT x.1) x.2.2.1 (x.2.2.2.1,x.2.2.2.2.1,IntKind.i64.wrap (x.2.2.2.2.2 % 65536),false)).2∧(cb (aT x.1) x.2.2.1 (x.2.2.2.1,x.2.2.2.2.1,IntKind.i64.wrap (x.2.2.2.2.2 % 65536),false)).1.1=(cb (aT x.1) x.2.2.1 (x.2.2.2.1,x.2.2.2.2.1,IntKind.i64.wrap (x.2.2.2.2.2 % 65536),false)).1.1∧(cb (aT x.1) x.2.2.1 (x.2.2.2.1,x.2.2.2.2.1,IntKind.i64.wrap (x.2.2.2.2.2 % 65536),false)).1.2.1=(cb (aT x.1) x.2.2.1 (x.2.2.2.1,x.2.2.2.2.1,IntKind.i64.wrap (x.2.2.2.2.2 % 65536),false)).1.2.1∧(cb (aT x.1) x.2.2.1 (x.2.2.2.1,x.2.2.2.2.1,IntKind.i64.wrap (x.2.2.2.2.2 % 65536),false)).1.2.2.1=(cb (aT x.1) x.2.2.1 (x.2.2.2.1,x.2.2.2.2.1,IntKind.i64.wrap (x.2.2.2.2.2 % 65536),false)).1.2.2.1∧(cb (aT x.1) x.2.2.1 (x.2.2.2.1,x.2.2.2.2.1,IntKind.i64.wrap (x.2.2.2.2.2 % 65536),false)).1.2.2.2=(cb (aT x.1) x.2.2.1 (x.2.2.2.1,x.2.2.2.2.1,IntKind.i64.wrap (x.2.2.2.2.2 % 65536),false)).1.2.2.2∧(cb (aT x.1) x.2.2.1 (x.2.2.2.1,x.2.2.2.2.1,IntKind.i64.wrap (x.2.2.2.2.2 % 65536),false)).2=(cb (aT x.1) x.2.2.1 (x.2.2.2.1,x.2.2.2.2.1,IntKind.i64.wrap (x.2.2.2.2.2 % 65536),false)).2∧(cb (aT x.1) x.2.2.1 (x.2.2.2.1,x.2.2.2.2.1,IntKind.i64.wrap (x.2.2.2.2.2 % 65536),false)).1.1=(cb (aT x.1) x.2.2.1 (x.2.2.2.1,x.2.2.2.2.1,IntKind.i64.wrap (x.2.2.2.2.2 % 65536),false)).1.1∧(cb (aT x.1) x.2.2.1 (x.2.2.2.1,x.2.2.2.2.1,IntKind.i64.wrap (x.2.2.2.2.2 % 65536),false)).1.2.1=(cb (aT x.1) x.2.2.1 (x.2.2.2.1,x.2.2.2.2.1,IntKind.i64.wrap (x.2.2.2.2.2 % 65536),false)).1.2.1∧(cb (aT x.1) x.2.2.1 (x.2.2.2.1,x.2.2.2.2.1,IntKind.i64.wrap (x.2.2.2.2.2 % 65536),false)).1.2.2.1=(cb (aT x.1) x.2.2.1 (x.2.2.2.1,x.2.2.2.2.1,IntKind.i64.wrap (x.2.2.2.2.2 % 65536),false)).1.2.2.1∧(cb (aT x.1) x.2.2.1 (x.2.2.2.1,x.2.2.2.2.1,IntKind.i64.wrap (x.2.2.2.2.2 % 65536),false)).1.2.2.2=(cb (aT x.1) x.2.2.1 (x.2.2.2.1,x.2.2.2.2.1,IntKind.i64.wrap (x.2.2.2.2.2 % 65536),false)).1.2.2.2∧(cb (aT x.1) x.2.2.1 (x.2.2.2.1,x.2.2.2.2.1,IntKind.i64.wrap (x.2.2.2.2.2 % 65536),false)).2=(cb (aT x.1) x.2.2.1 (x.2.2.2.1,x.2.2.2.2.1,IntKind.i64.wrap (x.2.2.2.2.2 % 65536),false)).2∧(cb (aT x.1) x.2.2.1 (x.2.2.2.1,x.2.2.2.2.1,IntKind.i64.wrap (x.2.2.2.2.2 % 65536),false)).2=(cb (aT x.1) x.2.2.1 (x.2.2.2.1,x.2.2.2.2.1,IntKind.i64.wrap (x.2.2.2.2.2 % 65536),false)).2∧((cb (aT x.1) x.2.2.1 (x.2.2.2.1,x.2.2.2.2.1,IntKind.i64.wrap (x.2.2.2.2.2 % 65536),false)).2=true→(cb (aT x.1) x.2.2.1 (x.2.2.2.1,x.2.2.2.2.1,IntKind.i64.wrap (x.2.2.2.2.2 % 65536),false)).1=(aJ x.1 x.2.1 x.2.2.1 x.2.2.2.1 x.2.2.2.2.1 x.2.2.2.2.2).1∧1=(aJ x.1 x.2.1 x.2.2.1 x.2.2.2.1 x.2.2.2.2.1 x.2.2.2.2.2).2.1∧0=(aJ x.1 x.2.1 x.2.2.1 x.2.2.2.1 x.2.2.2.2.1 x.2.2.2.2.2).2.2∧True)∧((cb (aT x.1) x.2.2.1 (x.2.2.2.1,x.2.2.2.2.1,IntKind.i64.wrap (x.2.2.2.2.2 % 65536),false)).2=false→∀ (_:Array Value),(([]:List Int),([]:List Int),([]:List (Int×Int)),([]:List (Int×Bool×Int)))=(aJ x.1 x.2.1 x.2.2.1 x.2.2.2.1 x.2.2.2.2.1 x.2.2.2.2.2).1∧0=(aJ x.1 x.2.1 x.2.2.1 x.2.2.2.1 x.2.2.2.2.1 x.2.2.2.2.2).2.1∧7=(aJ x.1 x.2.1 x.2.2.1 x.2.2.2.1 x.2.2.2.2.1 x.2.2.2.2.2).2.2∧True))))∧(decide (x.2.1=1)=false→(decide (x.2.1=2)=true→aO x.1=0∧(aa (aT x.1).1).2=0∧IntKind.u64.wrap (dS (aL false ([]:List bK) (aa (aT x.1).1).1))=IntKind.u64.wrap (dS (aL false ([]:List bK) (aa (aT x.1).1).1))∧aT x.1=(aJ x.1 x.2.1 x.2.2.1 x.2.2.2.1 x.2.2.2.2.1 x.2.2.2.2.2).1∧IntKind.u64.wrap (dS (aL false ([]:List bK) (aa (aT x.1).1).1))=(aJ x.1 x.2.1 x.2.2.1 x.2.2.2.1 x.2.2.2.2.1 x.2.2.2.2.2).2.1∧0=(aJ x.1 x.2.1 x.2.2.1 x.2.2.2.1 x.2.2.2.2.1 x.2.2.2.2.2).2.2∧True)∧(decide (x.2.1=2)=false→((decide (x.2.1=3)=true→decide (x.2.1=3)=(decide (x.2.1=3)||decide (x.2.1=4)))∧(decide (x.2.1=3)=false→decide (x.2.1=4)=(decide (x.2.1=3)||decide (x.2.1=4))))∧∀ (x_3:Bool),x_3=(decide (x.2.1=3)||decide (x.2.1=4))→(x_3=true→((decide (x.2.2.2.1<0)||decide (x_2.2.1.1≤x.2.2.2.1))=true→∀ (_:Array Value),(([]:List Int),([]:List Int),([]:List (Int×Int)),([]:List (Int×Bool×Int)))=(aJ x.1 x.2.1 x.2.2.1 x.2.2.2.1 x.2.2.2.2.1 x.2.2.2.2.2).1∧0=(aJ x.1 x.2.1 x.2.2.1 x.2.2.2.1 x.2.2.2.2.1 x.2.2.2.2.2).2.1∧4=(aJ x.1 x.2.1 x.2.2.1 x.2.2.2.1 x.2.2.2.2.1 x.2.2.2.2.2).2.2∧True)∧((decide (x.2.2.2.1<0)||decide (x_2.2.1.1≤x.2.2.2.1))=false→∀ (_:Array Value),((!(decide (0≤x.2.2.2.2.1)&&decide (x.2.2.2.2.1<(↑x.1.2.1.length:Int))))=true→∀ (_:Array Value),(([]:List Int),([]:List Int),([]:List (Int×Int)),([]:List (Int×Bool×Int)))=(aJ x.1 x.2.1 x.2.2.1 x.2.2.2.1 x.2.2.2.2.1 x.2.2.2.2.2).1∧0=(aJ x.1 x.2.1 x.2.2.1 x.2.2.2.1 x.2.2.2.2.1 x.2.2.2.2.2).2.1∧5=(aJ x.1 x.2.1 x.2.2.1 x.2.2.2.1 x.2.2.2.2.1 x.2.2.2.2.2).2.2∧True)∧((!(decide (0≤x.2.2.2.2.1)&&decide (x.2.2.2.2.1<(↑x.1.2.1.length:Int))))=false→(decide (x.2.1=3)=true→True∧0≤x.2.2.2.1∧x.2.2.2.1<(↑(aB x.1.1 x_2.1 (ah x_2.1 (aa x.1.1).1).1).length:Int)∧0≤x.2.2.2.2.1∧x.2.2.2.2.1<(↑x.1.2.1.length:Int)∧x.2.2.2.2.1.toNat<x.1.2.1.length∧(x.1.1,x.1.2.1.set x.2.2.2.2.1.toNat ((aB x.1.1 x_2.1 (ah x_2.1 (aa x.1.1).1).1).getD x.2.2.2.1.toNat 0),x.1.2.2)=(aJ x.1 x.2.1 x.2.2.1 x.2.2.2.1 x.2.2.2.2.1 x.2.2.2.2.2).1∧0=(aJ x.1 x.2.1 x.2.2.1 x.2.2.2.1 x.2.2.2.2.1 x.2.2.2.2.2).2.1∧0=(aJ x.1 x.2.1 x.2.2.1 x.2.2.2.1 x.2.2.2.2.1 x.2.2.2.2.2).2.2∧True)∧(decide (x.2.1=3)=false→0≤x.2.2.2.2.1∧x.2.2.2.2.1<(↑x.1.2.1.length:Int)∧(ao x.1.1).2.2=0∧((eM x.1.1 x_2.1 x.2.2.2.1 (x.1.2.1.getD x.2.2.2.2.1.toNat 0)).1,x.1.2)=(aJ x.1 x.2.1 x.2.2.1 x.2.2.2.1 x.2.2.2.2.1 x.2.2.2.2.2).1∧0=(aJ x.1 x.2.1 x.2.2.1 x.2.2.2.1 x.2.2.2.2.1 x.2.2.2.2.2).2.1∧0=(aJ x.1 x.2.1 x.2.2.1 x.2.2.2.1 x.2.2.2.2.1 x.2.2.2.2.2).2.2∧True))))∧(x_3=false→((decide (x.2.1=5)=true→decide (x.2.1=5)=(decide (x.2.1=5)||decide (x.2.1=6)))∧(decide (x.2.1=5)=false→decide (x.2.1=6)=(decide (x.2.1=5)||decide (x.2.1=6))))∧∀ (x_4:Bool),x_4=(decide (x.2.1=5)||decide (x.2.1=6))→(x_4=true→((decide (x.2.2.2.1<0)||decide (x_2.2.1.2.1≤x.2.2.2.1))=true→∀ (_:Array Value),(([]:List Int),([]:List Int),([]:List (Int×Int)),([]:List (Int×Bool×Int)))=(aJ x.1 x.2.1 x.2.2.1 x.2.2.2.1 x.2.2.2.2.1 x.2.2.2.2.2).1∧0=(aJ x.1 x.2.1 x.2.2.1 x.2.2.2.1 x.2.2.2.2.1 x.2.2.2.2.2).2.1∧4=(aJ x.1 x.2.1 x.2.2.1 x.2.2.2.1 x.2.2.2.2.1 x.2.2.2.2.2).2.2∧True)∧((decide (x.2.2.2.1<0)||decide (x_2.2.1.2.1≤x.2.2.2.1))=false→ak IntKind.i64 (x_2.1+1)∧ak IntKind.i64 (x_2.1+1+x_2.2.1.1)∧ak IntKind.i64 (x_2.1+1+x_2.2.1.1+x.2.2.2.1)∧(decide (x.2.1=5)=true→0≤x_2.1+1+x_2.2.1.1+x.2.2.2.1∧x_2.1+1+x_2.2.1.1+x.2.2.2.1<(↑x.1.1.length:Int)∧x.1.1=x.1.1∧x_2.1+1+x_2.2.1.1+x.2.2.2.1=x_2.1+1+x_2.2.1.1+x.2.2.2.1∧0≤x_2.1+1+x_2.2.1.1+x.2.2.2.1∧x_2.1+1+x_2.2.1.1+x.2.2.2.1<(↑x.1.1.length:Int)∧x.1.1.getD (x_2.1+1+x_2.2.1.1+x.2.2.2.1).toNat 0=x.1.1.getD (x_2.1+1+x_2.2.1.1+x.2.2.2.1).toNat 0∧x.1.1.getD (x_2.1+1+x_2.2.1.1+x.2.2.2.1).toNat 0=x.1.1.getD (x_2.1+1+x_2.2.1.1+x.2.2.2.1).toNat 0∧x.1=(aJ x.1 x.2.1 x.2.2.1 x.2.2.2.1 x.2.2.2.2.1 x.2.2.2.2.2).1∧x.1.1.getD (x_2.1+1+x_2.2.1.1+x.2.2.2.1).toNat 0=(aJ x.1 x.2.1 x.2.2.1 x.2.2.2.1 x.2.2.2.2.1 x.2.2.2.2.2).2.1∧0=(aJ x.1 x.2.1 x.2.2.1 x.2.2.2.1 x.2.2.2.2.1 x.2.2.2.2.2).2.2∧True)∧(decide (x.2.1=5)=false→0≤x_2.1+1+x_2.2.1.1+x.2.2.2.1∧x_2.1+1+x_2.2.1.1+x.2.2.2.1<(↑x.1.1.length:Int)∧(x_2.1+1+x_2.2.1.1+x.2.2.2.1).toNat<x.1.1.length∧(x.1.1.set (x_2.1+1+x_2.2.1.1+x.2.2.2.1).toNat x.2.2.2.2.2,x.1.2)=(aJ x.1 x.2.1 x.2.2.1 x.2.2.2.1 x.2.2.2.2.1 x.2.2.2.2.2).1∧0=(aJ x.1 x.2.1 x.2.2.1 x.2.2.2.1 x.2.2.2.2.1 x.2.2.2.2.2).2.1∧0=(aJ x.1 x.2.1 x.2.2.1 x.2.2.2.1 x.2.2.2.2.1 x.2.2.2.2.2).2.2∧True)))∧(x_4=false→(decide (x.2.1=7)=true→True∧((decide ((aK (cr ([]:List bh) x.1.2.2.1) x_2.1).getD (0:Int)=1000000)||decide ((aK (cr ([]:List bh) x.1.2.2.1) x_2.1).getD (0:Int)=0)&&decide ((↑x.1.2.2.1.length:Int)=16))=true→∀ (_:Array Value),(([]:List Int),([]:List Int),([]:List (Int×Int)),([]:List (Int×Bool×Int)))=(aJ x.1 x.2.1 x.2.2.1 x.2.2.2.1 x.2.2.2.2.1 x.2.2.2.2.2).1∧0=(aJ x.1 x.2.1 x.2.2.1 x.2.2.2.1 x.2.2.2.2.1 x.2.2.2.2.2).2.1∧7=(aJ x.1 x.2.1 x.2.2.1 x.2.2.2.1 x.2.2.2.2.1 x.2.2.2.2.2).2.2∧True)∧((decide ((aK (cr ([]:List bh) x.1.2.2.1) x_2.1).getD (0:Int)=1000000)||decide ((aK (cr ([]:List bh) x.1.2.2.1) x_2.1).getD (0:Int)=0)&&decide ((↑x.1.2.2.1.length:Int)=16))=false→ak IntKind.i64 ((aK (cr ([]:List bh) x.1.2.2.1) x_2.1).getD 0+1)∧True∧(x.1.1,x.1.2.1,gA (dP (cr ([]:List bh) x.1.2.2.1) x_2.1 ((aK (cr ([]:List bh) x.1.2.2.1) x_2.1).getD 0+1)),x.1.2.2.2)=(aJ x.1 x.2.1 x.2.2.1 x.2.2.2.1 x.2.2.2.2.1 x.2.2.2.2.2).1∧IntKind.u64.wrap x_2.1=(aJ x.1 x.2.1 x.2.2.1 x.2.2.2.1 x.2.2.2.2.1 x.2.2.2.2.2).2.1∧0=(aJ x.1 x.2.1 x.2.2.1 x.2.2.2.1 x.2.2.2.2.1 x.2.2.2.2.2).2.2∧True))∧(decide (x.2.1=7)=false→(decide (x.2.1=8)=true→True∧((decide (x.2.2.1<0)||decide (255<x.2.2.1))=true→∀ (_:Array Value),(([]:List Int),([]:List Int),([]:List (Int×Int)),([]:List (Int×Bool×Int)))=(aJ x.1 x.2.1 x.2.2.1 x.2.2.2.1 x.2.2.2.2.1 x.2.2.2.2.2).1∧0=(aJ x.1 x.2.1 x.2.2.1 x.2.2.2.1 x.2.2.2.2.1 x.2.2.2.2.2).2.1∧4=(aJ x.1 x.2.1 x.2.2.1 x.2.2.2.1 x.2.2.2.2.1 x.2.2.2.2.2).2.2∧True)∧((decide (x.2.2.1<0)||decide (255<x.2.2.1))=false→(decide ((aK (cr ([]:List bh) x.1.2.2.1) x.2.2.1).getD (0:Int)=0)=true→∀ (_:Array Value),(([]:List Int),([]:List Int),([]:List (Int×Int)),([]:List (Int×Bool×Int)))=(aJ x.1 x.2.1 x.2.2.1 x.2.2.2.1 x.2.2.2.2.1 x.2.2.2.2.2).1∧0=(aJ x.1 x.2.1 x.2.2.1 x.2.2.2.1 x.2.2.2.2.1 x.2.2.2.2.2).2.1∧5=(aJ x.1 x.2.1 x.2.2.1 x.2.2.2.1 x.2.2.2.2.1 x.2.2.2.2.2).2.2∧True)∧(decide ((aK (cr ([]:List bh) x.1.2.2.1) x.2.2.1).getD (0:Int)=0)=false→ak IntKind.i64 ((aK (cr ([]:List bh) x.1.2.2.1) x.2.2.1).getD 0 - 1)∧True∧(x.1.1,x.1.2.1,gA (dP (cr ([]:List bh) x.1.2.2.1) x.2.2.1 ((aK (cr ([]:List bh) x.1.2.2.1) x.2.2.1).getD 0 - 1)),x.1.2.2.2)=(aJ x.1 x.2.1 x.2.2.1 x.2.2.2.1 x.2.2.2.2.1 x.2.2.2.2.2).1∧0=(aJ x.1 x.2.1 x.2.2.1 x.2.2.2.1 x.2.2.2.2.1 x.2.2.2.2.2).2.1∧0=(aJ x.1 x.2.1 x.2.2.1 x.2.2.2.1 x.2.2.2.2.1 x.2.2.2.2.2).2.2∧True)))∧(decide (x.2.1=8)=false→(decide (x.2.1=9)=true→True∧(decide ((aK (cr ([]:List bh) x.1.2.2.1) x.2.2.1).getD (0:Int)=0)=true→∀ (_:Array Value),(([]:List Int),([]:List Int),([]:List (Int×Int)),([]:List (Int×Bool×Int)))=(aJ x.1 x.2.1 x.2.2.1 x.2.2.2.1 x.2.2.2.2.1 x.2.2.2.2.2).1∧0=(aJ x.1 x.2.1 x.2.2.1 x.2.2.2.1 x.2.2.2.2.1 x.2.2.2.2.2).2.1∧8=(aJ x.1 x.2.1 x.2.2.1 x.2.2.2.1 x.2.2.2.2.1 x.2.2.2.2.2).2.2∧True)∧(decide ((aK (cr ([]:List bh) x.1.2.2.1) x.2.2.1).getD (0:Int)=0)=false→True∧((decide (x.2.2.2.1<0)||decide ((ah x.2.2.1 (aa x.1.1).1).1.2.1≤x.2.2.2.1))=true→∀ (_:Array Value),(([]:List Int),([]:List Int),([]:List (Int×Int)),([]:List (Int×Bool×Int)))=(aJ x.1 x.2.1 x.2.2.1 x.2.2.2.1 x.2.2.2.2.1 x.2.2.2.2.2).1∧0=(aJ x.1 x.2.1 x.2.2.1 x.2.2.2.1 x.2.2.2.2.1 x.2.2.2.2.2).2.1∧4=(aJ x.1 x.2.1 x.2.2.1 x.2.2.2.1 x.2.2.2.2.1 x.2.2.2.2.2).2.2∧True)∧((decide (x.2.2.2.1<0)||decide ((ah x.2.2.1 (aa x.1.1).1).1.2.1≤x.2.2.2.1))=false→ak IntKind.i64 (x.2.2.1+1)∧ak IntKind.i64 (x.2.2.1+1+(ah x.2.2.1 (aa x.1.1).1).1.1)∧ak IntKind.i64 (x.2.2.1+1+(ah x.2.2.1 (aa x.1.1).1).1.1+x.2.2.2.1)∧0≤x.2.2.1+1+(ah x.2.2.1 (aa x.1.1).1).1.1+x.2.2.2.1∧x.2.2.1+1+(ah x.2.2.1 (aa x.1.1).1).1.1+x.2.2.2.1<(↑x.1.1.length:Int)∧x.1.1=x.1.1∧x.2.2.1=x.2.2.1∧ak IntKind.i64 (x.2.2.1+1)∧x.2.2.1+1=x.2.2.1+1∧(ah x.2.2.1 (aa x.1.1).1).1.1=(ah x.2.2.1 (aa x.1.1).1).1.1∧ak IntKind.i64 (x.2.2.1+1+(ah x.2.2.1 (aa x.1.1).1).1.1)∧x.2.2.1+1+(ah x.2.2.1 (aa x.1.1).1).1.1=x.2.2.1+1+(ah x.2.2.1 (aa x.1.1).1).1.1∧x.2.2.2.1=x.2.2.2.1∧ak IntKind.i64 (x.2.2.1+1+(ah x.2.2.1 (aa x.1.1).1).1.1+x.2.2.2.1)∧x.2.2.1+1+(ah x.2.2.1 (aa x.1.1).1).1.1+x.2.2.2.1=x.2.2.1+1+(ah x.2.2.1 (aa x.1.1).1).1.1+x.2.2.2.1∧0≤x.2.2.1+1+(ah x.2.2.1 (aa x.1.1).1).1.1+x.2.2.2.1∧x.2.2.1+1+(ah x.2.2.1 (aa x.1.1).1).1.1+x.2.2.2.1<(↑x.1.1.length:Int)∧x.1.1.getD (x.2.2.1+1+(ah x.2.2.1 (aa x.1.1).1).1.1+x.2.2.2.1).toNat 0=x.1.1.getD (x.2.2.1+1+(ah x.2.2.1 (aa x.1.1).1).1.1+x.2.2.2.1).toNat 0∧x.1.1.getD (x.2.2.1+1+(ah x.2.2.1 (aa x.1.1).1).1.1+x.2.2.2.1).toNat 0=x.1.1.getD (x.2.2.1+1+(ah x.2.2.1 (aa x.1.1).1).1.1+x.2.2.2.1).toNat 0∧x.1=(aJ x.1 x.2.1 x.2.2.1 x.2.2.2.1 x.2.2.2.2.1 x.2.2.2.2.2).1∧x.1.1.getD (x.2.2.1+1+(ah x.2.2.1 (aa x.1.1).1).1.1+x.2.2.2.1).toNat 0=(aJ x.1 x.2.1 x.2.2.1 x.2.2.2.1 x.2.2.2.2.1 x.2.2.2.2.2).2.1∧0=(aJ x.1 x.2.1 x.2.2.1 x.2.2.2.1 x.2.2.2.2.1 x.2.2.2.2.2).2.2∧True)))∧(decide (x.2.1=9)=false→(decide (x.2.1=10)=true→((0:Int)≤0∧0≤(↑x.1.2.2.2.length:Int)∧x.1=x.1∧aj ci 0 (List.drop (Int.toNat 0) x.1.2.2.2)=aj ci 0 x.1.2.2.2)∧∀ (x_5:Int×(List Int×List Int×List (Int×Int)×List (Int×Bool×Int))×List Int×List Int×List (Int×Int)×List (Int×Bool×Int)),0≤x_5.1∧x_5.1≤(↑x.1.2.2.2.length:Int)∧x_5.2.1=x.1∧aj ci x_5.1 (List.drop x_5.1.toNat x.1.2.2.2)=aj ci 0 x.1.2.2.2→(decide (x_5.1<(↑x.1.2.2.2.length:Int))=true→0≤x_5.1∧x_5.1<(↑x.1.2.2.2.length:Int)∧((!(x.1.2.2.2.getD x_5.1.toNat (0,false,0)).2.1&&decide ((x.1.2.2.2.getD x_5.1.toNat (0,false,0)).1<65535))=true→ak IntKind.i64 ((x.1.2.2.2.getD x_5.1.toNat (0,false,0)).1+1)∧0≤x_5.1∧x_5.1<(↑x_5.2.1.2.2.2.length:Int)∧x_5.1.toNat<x_5.2.1.2.2.2.length∧0≤x_5.1∧x_5.1<(↑(x_5.2.1.2.2.2.set x_5.1.toNat ((x.1.2.2.2.getD x_5.1.toNat (0,false,0)).1+1,true,x_2.1)).length:Int)∧x_5.1.toNat<(x_5.2.1.2.2.2.set x_5.1.toNat ((x.1.2.2.2.getD x_5.1.toNat (0,false,0)).1+1,true,x_2.1)).length∧(0≤x_5.1∧x_5.1<65536∧0≤((x_5.2.1.2.2.2.set x_5.1.toNat ((x.1.2.2.2.getD x_5.1.toNat (0,false,0)).1+1,true,x_2.1)).getD x_5.1.toNat (0,false,0)).1∧((x_5.2.1.2.2.2.set x_5.1.toNat ((x.1.2.2.2.getD x_5.1.toNat (0,false,0)).1+1,true,x_2.1)).getD x_5.1.toNat (0,false,0)).1≤65535)∧(x_5.2.1.1,x_5.2.1.2.1,x_5.2.1.2.2.1,x_5.2.1.2.2.2.set x_5.1.toNat ((x.1.2.2.2.getD x_5.1.toNat (0,false,0)).1+1,true,x_2.1))=(aJ x.1 x.2.1 x.2.2.1 x.2.2.2.1 x.2.2.2.2.1 x.2.2.2.2.2).1∧dg x_5.1 ((x_5.2.1.2.2.2.set x_5.1.toNat ((x.1.2.2.2.getD x_5.1.toNat (0,false,0)).1+1,true,x_2.1)).getD x_5.1.toNat (0,false,0))=(aJ x.1 x.2.1 x.2.2.1 x.2.2.2.1 x.2.2.2.2.1 x.2.2.2.2.2).2.1∧0=(aJ x.1 x.2.1 x.2.2.1 x.2.2.2.1 x.2.2.2.2.1 x.2.2.2.2.2).2.2∧True)∧((!(x.1.2.2.2.getD x_5.1.toNat (0,false,0)).2.1&&decide ((x.1.2.2.2.getD x_5.1.toNat (0,false,0)).1<65535))=false→ak IntKind.i64 (x_5.1+1)∧(0≤x_5.1+1∧x_5.1+1≤(↑x.1.2.2.2.length:Int)∧x_5.2.1=x.1∧aj ci (x_5.1+1) (List.drop (x_5.1+1).toNat x.1.2.2.2)=aj ci 0 x.1.2.2.2)∧((↑x.1.2.2.2.length:Int) - (x_5.1+1)).toNat<((↑x.1.2.2.2.length:Int) - x_5.1).toNat))∧(decide (x_5.1<(↑x.1.2.2.2.length:Int))=false→∀ (_:Array Value),(([]:List Int),([]:List Int),([]:List (Int×Int)),([]:List (Int×Bool×Int)))=(aJ x.1 x.2.1 x.2.2.1 x.2.2.2.1 x.2.2.2.2.1 x.2.2.2.2.2).1∧0=(aJ x.1 x.2.1 x.2.2.1 x.2.2.2.1 x.2.2.2.2.1 x.2.2.2.2.2).2.1∧7=(aJ x.1 x.2.1 x.2.2.1 x.2.2.2.1 x.2.2.2.2.1 x.2.2.2.2.2).2.2∧True))∧(decide (x.2.1=10)=false→((decide (x.2.1=11)=true→decide (x.2.1=11)=(decide (x.2.1=11)||decide (x.2.1=12)))∧(decide (x.2.1=11)=false→decide (x.2.1=12)=(decide (x.2.1=11)||decide (x.2.1=12))))∧∀ (x_5:Bool),x_5=(decide (x.2.1=11)||decide (x.2.1=12))→(x_5=true→aN x.1.2.2.2=0∧(decide (bc x.2.2.2.2.2 0 x.1.2.2.2<0)=true→∀ (_:Array Value),(([]:List Int),([]:List Int),([]:List (Int×Int)),([]:List (Int×Bool×Int)))=(aJ x.1 x.2.1 x.2.2.1 x.2.2.2.1 x.2.2.2.2.1 x.2.2.2.2.2).1∧0=(aJ x.1 x.2.1 x.2.2.1 x.2.2.2.1 x.2.2.2.2.1 x.2.2.2.2.2).2.1∧9=(aJ x.1 x.2.1 x.2.2.1 x.2.2.2.1 x.2.2.2.2.1 x.2.2.2.2.2).2.2∧True)∧(decide (bc x.2.2.2.2.2 0 x.1.2.2.2<0)=false→(decide (x.2.1=11)=true→0≤bc x.2.2.2.2.2 0 x.1.2.2.2∧bc x.2.2.2.2.2 0 x.1.2.2.2<(↑x.1.2.2.2.length:Int)∧0≤x.2.2.1∧x.2.2.1<(↑x.1.2.1.length:Int)∧x.2.2.1.toNat<x.1.2.1.length∧(x.1.1,x.1.2.1.set x.2.2.1.toNat (x.1.2.2.2.getD (bc x.2.2.2.2.2 0 x.1.2.2.2).toNat (0,false,0)).2.2,x.1.2.2)=(aJ x.1 x.2.1 x.2.2.1 x.2.2.2.1 x.2.2.2.2.1 x.2.2.2.2.2).1∧0=(aJ x.1 x.2.1 x.2.2.1 x.2.2.2.1 x.2.2.2.2.1 x.2.2.2.2.2).2.1∧0=(aJ x.1 x.2.1 x.2.2.1 x.2.2.2.1 x.2.2.2.2.1 x.2.2.2.2.2).2.2∧True)∧(decide (x.2.1=11)=false→0≤bc x.2.2.2.2.2 0 x.1.2.2.2∧bc x.2.2.2.2.2 0 x.1.2.2.2<(↑x.1.2.2.2.length:Int)∧0≤bc x.2.2.2.2.2 0 x.1.2.2.2∧bc x.2.2.2.2.2 0 x.1.2.2.2<(↑x.1.2.2.2.length:Int)∧(bc x.2.2.2.2.2 0 x.1.2.2.2).toNat<x.1.2.2.2.length∧(x.1.1,x.1.2.1,x.1.2.2.1,x.1.2.2.2.set (bc x.2.2.2.2.2 0 x.1.2.2.2).toNat ((x.1.2.2.2.getD (bc x.2.2.2.2.2 0 x.1.2.2.2).toNat (0,false,0)).1,false,0))=(aJ x.1 x.2.1 x.2.2.1 x.2.2.2.1 x.2.2.2.2.1 x.2.2.2.2.2).1∧0=(aJ x.1 x.2.1 x.2.2.1 x.2.2.2.1 x.2.2.2.2.1 x.2.2.2.2.2).2.1∧0=(aJ x.1 x.2.1 x.2.2.1 x.2.2.2.1 x.2.2.2.2.1 x.2.2.2.2.2).2.2∧True)))∧(x_5=false→0≤x.2.2.1∧x.2.2.1<(↑x.1.2.1.length:Int)∧x.2.2.1.toNat<x.1.2.1.length∧(x.1.1,x.1.2.1.set x.2.2.1.toNat (-1),x.1.2.2)=(aJ x.1 x.2.1 x.2.2.1 x.2.2.2.1 x.2.2.2.2.1 x.2.2.2.2.2).1∧0=(aJ x.1 x.2.1 x.2.2.1 x.2.2.2.1 x.2.2.2.2.1 x.2.2.2.2.2).2.1∧0=(aJ x.1 x.2.1 x.2.2.1 x.2.2.2.1 x.2.2.2.2.1 x.2.2.2.2.2).2.2∧True)))))))))))
theorem Dt:zB:=by
 unfold zB
 intro ⟨s,k,a,b,c,v⟩ ⟨⟨⟨hb,hw⟩,⟨hb2,_⟩,⟨hb3,_⟩,hb4,_⟩,_,ha,_,_,hv⟩ _
 simp only at hb hw hb2 hb3 hb4 ha hv ⊢
 simp only [ak] at ha hv
 have hD:aJ s k a b c v=if qe k a b c v=true then (aV,0,1) else if aO s≠0 then (aV,0,aO s) else fD s k a b c v:=rfl
 refine fun tm=>⟨trivial,hb2,hb3,by first | exact trivial | rfl,by first | exact trivial | rfl,by first | exact trivial | rfl,by first | exact trivial | rfl,by first | exact trivial | rfl,by first | exact trivial | rfl,hb4,fun h=>?_,fun h=>⟨trivial,fun h1=>?_,fun h1=>?_⟩⟩
 ·have h:qe k a b c v=true:=h
  rw [hD,if_pos h]
  exact fun _=>⟨by first | exact trivial | rfl,by first | exact trivial | rfl,by first | exact trivial | rfl,trivial⟩
 ·have h:qe k a b c v=false:=h
  rw [hD,if_neg (by rw [h]; simp),if_pos (of_decide_eq_true h1)]
  exact fun _=>⟨by first | exact trivial | rfl,by first | exact trivial | rfl,by first | exact trivial | rfl,trivial⟩
 have h:qe k a b c v=false:=h
 have h0:aO s=0:=by simpa using of_decide_eq_false h1
 rw [if_neg (by rw [h]; simp),if_neg (by omega)] at hD
 have hk13:1≤k∧k≤13:=by
  unfold qe at h
  simp only [Bool.or_eq_false_iff,decide_eq_false_iff_not] at h
  omega
 have R:=ky hw h0
 have hal:=R.al
 have hsm:=R.small
 rw [hD]
 refine ⟨⟨fun q=>by unfold de; simp [q],fun q3=>⟨fun q=>by unfold de; simp [q],fun q4=>⟨fun q=>by unfold de; simp [q],fun q5=>⟨fun q=>by unfold de; simp [q],fun q6=>⟨fun q=>by unfold de; simp [q],fun q7=>by unfold de; simp [q3,q4,q5,q6,q7]⟩⟩⟩⟩⟩,fun x1 e1=>⟨⟨fun hr tm=>⟨fun q=>?_,fun q=>?_,fun q=>?_,fun q=>?_⟩,fun hr=>⟨⟨fun q=>by unfold eR; simp [q],fun q1=>⟨fun q=>by unfold eR; simp [q],fun q2=>by unfold eR; simp [q1,q2]⟩⟩,fun x2 e2=>⟨fun hs tm=>⟨fun q=>?_,fun q=>?_⟩,fun hs=>⟨fun hx=>?_,fun hx=>?_⟩⟩⟩⟩,fun ⟨x,hd,st⟩ ⟨hi1,hi2⟩=>?_⟩⟩
 ·have q:0≤a∧a<s.2.1.length:=by simpa using q
  exact q.1
 ·have q:0≤a∧a<s.2.1.length:=by simpa using q
  exact q.2
 ·have hr:de k=true:=by rw [← e1]; exact hr
  have q:a<0∨(s.2.1.length:Int)≤a∨s.2.1.getD a.toNat 0<0:=by
   simp only [Bool.or_eq_true,Bool.not_eq_true',Bool.and_eq_false_iff,decide_eq_false_iff_not,decide_eq_true_eq] at q
   omega
  rw [EH b c v h0 hr q]
  exact fun _=>⟨by first | exact trivial | rfl,by first | exact trivial | rfl,by first | exact trivial | rfl,trivial⟩
 ·have q:(0≤a∧a<s.2.1.length)∧¬ s.2.1.getD a.toNat 0<0:=by
   simp only [Bool.or_eq_false_iff,Bool.not_eq_false',Bool.and_eq_true,decide_eq_false_iff_not,decide_eq_true_eq] at q
   exact q
  exact ⟨by omega,by omega,trivial,fun _=>⟨by omega,by omega,by unfold bq; omega,rfl,rfl⟩,fun _=>⟨by omega,by omega⟩⟩
 ·have hs:eR k=true:=by rw [← e2]; exact hs
  have q:a<0∨(s.2.1.length:Int)≤a:=by
   simp only [Bool.not_eq_true',Bool.and_eq_false_iff,decide_eq_false_iff_not] at q
   omega
  rw [EG b c v h0 hs q]
  exact fun _=>⟨by first | exact trivial | rfl,by first | exact trivial | rfl,by first | exact trivial | rfl,trivial⟩
 ·have q:0≤a∧a<s.2.1.length:=by simpa using q
  exact ⟨fun hx=>absurd hx (by rw [← e1,hr]; simp),fun _=>⟨q.1,q.2⟩⟩
 ·exact absurd hx (by rw [← e1,hr]; simp)
 ·exact absurd hx (by rw [← e2,hs]; simp)
 simp only at hi1 hi2 ⊢
 clear hb hb2 hb3 hb4 h1 tm hD h
 refine ⟨fun k1=>?_,fun k1=>⟨fun k2=>?_,fun k2=>⟨⟨fun q=>by simp [q],fun q=>by simp [q]⟩,fun x3 e3=>⟨fun k34=>?_,fun k34=>⟨⟨fun q=>by simp [q],fun q=>by simp [q]⟩,fun x4 e4=>⟨fun k56=>?_,fun k56=>⟨fun k7=>?_,fun k7=>⟨fun k8=>?_,fun k8=>⟨fun k9=>?_,fun k9=>⟨fun k10=>?_,fun k10=>⟨⟨fun q=>by simp [q],fun q=>by simp [q]⟩,fun x5 e5=>⟨fun k11=>?_,fun k11=>?_⟩⟩⟩⟩⟩⟩⟩⟩⟩⟩⟩⟩
 ·have k1:=of_decide_eq_true k1
  subst k1
  obtain ⟨a0,a1⟩:=hi2 rfl
  have hwr:IntKind.i64.wrap (v % 65536)=v % 65536:=ki (by omega) (by omega)
  have hS:=CF h0 a0 a1
  simp only [hwr,Gw]
  have hM:ba s a (b,c,v % 65536,false)=if cP s a≠0 then (aV,false,cP s a) else if eI (b,c,v % 65536,false)≠0 then (aV,false,eI (b,c,v % 65536,false)) else
   if (gg s a (b,c,v % 65536,false)).2=true then ((gg s a (b,c,v % 65536,false)).1,false,0) else if (gg (aT s) a (b,c,v % 65536,false)).2=true then ((gg (aT s) a (b,c,v % 65536,false)).1,true,0) else (aV,false,7):=rfl
  have hH:eI (b,c,v % 65536,false)=if ac (b,c,v % 65536,false)≠0 then ac (b,c,v % 65536,false) else if false=true then 3 else 0:=rfl
  have hL:∀ t,cb t a (b,c,v % 65536,false)=if (gg t a (b,c,v % 65536,false)).2=true then ((gg t a (b,c,v % 65536,false)).1,true) else (aV,false):=fun _=>rfl
  have hsl:(aT s).2.1.length=s.2.1.length:=List.length_map ..
  generalize (b,c,v % 65536,false)=hh at *
  rw [if_neg (by omega)] at hM
  refine ⟨by omega,by omega,trivial,fun q=>?_,fun q=>?_⟩
  ·have q:=of_decide_eq_true q
   rw [if_pos q] at hH
   rw [hM,if_pos (by omega),hH]
   exact fun _=>⟨by first | exact trivial | rfl,by first | exact trivial | rfl,by first | exact trivial | rfl,trivial⟩
  have q:=of_decide_eq_false q
  rw [if_neg q,if_neg (by simp)] at hH
  rw [if_neg (by omega)] at hM
  refine ⟨⟨⟨R.chk,hH⟩,a0,a1⟩,fun q1=>?_,fun q1=>?_⟩
  ·have hs1:(gg s a hh).2=true:=by
    rw [hL] at q1
    split at q1
    ·assumption
    ·cases q1
   rw [hM,if_pos hs1,hL,if_pos hs1]
   exact ⟨by first | exact trivial | rfl,by first | exact trivial | rfl,by first | exact trivial | rfl,trivial⟩
  have hs1:¬ (gg s a hh).2=true:=by
   rw [hL] at q1
   split at q1
   ·cases q1
   ·assumption
  rw [if_neg hs1] at hM
  have hpre:lr (aT s) hh∧0≤a∧a<((aT s).2.1.length:Int):=⟨⟨R.slidOK.1,hH⟩,a0,by omega⟩
  refine ⟨h0,hpre,by first | exact trivial | rfl,by first | exact trivial | rfl,by first | exact trivial | rfl,by first | exact trivial | rfl,h0,by first | exact trivial | rfl,by first | exact trivial | rfl,by first | exact trivial | rfl,by first | exact trivial | rfl,by first | exact trivial | rfl,by first | exact trivial | rfl,by first | exact trivial | rfl,by first | exact trivial | rfl,by first | exact trivial | rfl,hpre,by first | exact trivial | rfl,by first | exact trivial | rfl,by first | exact trivial | rfl,by first | exact trivial | rfl,by first | exact trivial | rfl,by first | exact trivial | rfl,by first | exact trivial | rfl,by first | exact trivial | rfl,by first | exact trivial | rfl,by first | exact trivial | rfl,by first | exact trivial | rfl,by first | exact trivial | rfl,by first | exact trivial | rfl,by first | exact trivial | rfl,by first | exact trivial | rfl,by first | exact trivial | rfl,fun q2=>?_,fun q2=>?_⟩
  ·have hs2:(gg (aT s) a hh).2=true:=by
    rw [hL] at q2
    split at q2
    ·assumption
    ·cases q2
   rw [hM,if_pos hs2,hL,if_pos hs2]
   exact ⟨by first | exact trivial | rfl,by first | exact trivial | rfl,by first | exact trivial | rfl,trivial⟩
  ·have hs2:¬ (gg (aT s) a hh).2=true:=by
    rw [hL] at q2
    split at q2
    ·cases q2
    ·assumption
   rw [hM,if_neg hs2]
   exact fun _=>⟨by first | exact trivial | rfl,by first | exact trivial | rfl,by first | exact trivial | rfl,trivial⟩
 ·have k2:=of_decide_eq_true k2
  subst k2
  have hz:=(bO R.slidOK.1).2.2.2.1
  have hg:=wM (aL false [] (aa (cC s)).1) (fun r hr=>by have:=R.gaps.2.1 r hr; omega)
  have hl:=R.gaps.2.2
  have e:(aT s).1=cC s:=rfl
  have hC:dJ s=(aT s,dS (aL false [] (aa (cC s)).1)):=rfl
  rw [HI,hC,e,gj (by omega) (by omega)]
  exact ⟨h0,hz,by first | exact trivial | rfl,by first | exact trivial | rfl,by first | exact trivial | rfl,by first | exact trivial | rfl,trivial⟩
 ·have hk:k=3∨k=4:=by
   rw [e3] at k34
   simpa using k34
  obtain ⟨a0,a1,a2,ex,eh⟩:=hi1 (by rcases hk with rfl | rfl <;> rfl)
  subst ex
  subst eh
  have O:ObjAt s (bq s a):=R.obj (R.rootNam a0 a1 a2)
  have e0:=Hc h0 a0 a1 a2
  have hR:jg s a b c=if b<0∨(dD s.1 (bq s a)).1≤b then 4 else if c<0∨(s.2.1.length:Int)≤c then 5 else 0:=by
   unfold jg
   rw [if_neg (by omega)]
  refine ⟨fun q=>?_,fun q tm=>⟨fun q2=>?_,fun q2=>?_⟩⟩
  ·have q:b<0∨(dD s.1 (bq s a)).1≤b:=by simpa using q
   rw [if_pos q] at hR
   rw [xl v hk (by omega),hR]
   exact fun _=>⟨by first | exact trivial | rfl,by first | exact trivial | rfl,by first | exact trivial | rfl,trivial⟩
  all_goals have q:¬ (b<0∨(dD s.1 (bq s a)).1≤b):=by simpa using q
  all_goals rw [if_neg q] at hR
  ·have q2:c<0∨(s.2.1.length:Int)≤c:=by
    simp only [Bool.not_eq_true',Bool.and_eq_false_iff,decide_eq_false_iff_not] at q2
    omega
   rw [if_pos q2] at hR
   rw [xl v hk (by omega),hR]
   exact fun _=>⟨by first | exact trivial | rfl,by first | exact trivial | rfl,by first | exact trivial | rfl,trivial⟩
  have q5:0≤c∧c<s.2.1.length:=by simpa using q2
  rw [if_neg (by omega)] at hR
  refine ⟨fun k3=>?_,fun k3=>?_⟩
  ·have k3:=of_decide_eq_true k3
   subst k3
   obtain ⟨n1,n2⟩:=FR R O (b:=b) (by omega) (by omega)
   rw [HH,n2]
   unfold D8
   rw [if_neg (by omega)]
   exact ⟨trivial,by omega,by omega,q5.1,q5.2,by omega,by first | exact trivial | rfl,by first | exact trivial | rfl,by first | exact trivial | rfl,trivial⟩
  ·have k4:k=4:=by
    have:=of_decide_eq_false k3
    omega
   subst k4
   have hwt:=AW R O (b:=b) (c:=c) (by omega) (by omega) q5.1 q5.2
   rw [HG]
   unfold DZ
   rw [if_neg (by omega),← hwt]
   exact ⟨q5.1,q5.2,R.chk,by first | exact trivial | rfl,by first | exact trivial | rfl,by first | exact trivial | rfl,trivial⟩
 ·have hk:k=5∨k=6:=by
   rw [e4] at k56
   simpa using k56
  obtain ⟨a0,a1,a2,ex,eh⟩:=hi1 (by rcases hk with rfl | rfl <;> rfl)
  subst ex
  subst eh
  have O:ObjAt s (bq s a):=R.obj (R.rootNam a0 a1 a2)
  have e0:=Hc h0 a0 a1 a2
  have hB:fH s a b=if b<0∨(dD s.1 (bq s a)).2.1≤b then 4 else 0:=by
   unfold fH
   rw [if_neg (by omega)]
  have:=O.x0
  have:=O.r0
  have:=O.fit
  refine ⟨fun q=>?_,fun q=>?_⟩
  ·have q:b<0∨(dD s.1 (bq s a)).2.1≤b:=by simpa using q
   rw [if_pos q] at hB
   rw [AF c v hk (by omega),hB]
   exact fun _=>⟨by first | exact trivial | rfl,by first | exact trivial | rfl,by first | exact trivial | rfl,trivial⟩
  have q:¬ (b<0∨(dD s.1 (bq s a)).2.1≤b):=by simpa using q
  rw [if_neg q] at hB
  simp only [ak]
  refine ⟨by omega,by omega,by omega,fun k5=>?_,fun k5=>?_⟩
  ·have k5:=of_decide_eq_true k5
   subst k5
   rw [HF,if_neg (by omega)]
   exact ⟨by omega,by omega,by first | exact trivial | rfl,by first | exact trivial | rfl,by omega,by omega,by first | exact trivial | rfl,by first | exact trivial | rfl,by first | exact trivial | rfl,by first | exact trivial | rfl,by first | exact trivial | rfl,trivial⟩
  ·have k6:k=6:=by
    have:=of_decide_eq_false k5
    omega
   subst k6
   rw [HE]
   unfold D9
   rw [if_neg (by omega)]
   exact ⟨by omega,by omega,by omega,by first | exact trivial | rfl,by first | exact trivial | rfl,by first | exact trivial | rfl,trivial⟩
 ·have k7:=of_decide_eq_true k7
  subst k7
  obtain ⟨a0,a1,a2,ex,eh⟩:=hi1 rfl
  subst ex
  have O:ObjAt s (bq s a):=R.obj (R.rootNam a0 a1 a2)
  have e0:=Hc h0 a0 a1 a2
  have:=O.x0
  have:=O.r0
  have:=O.b0
  have:=O.fit
  obtain ⟨_,p1,p2,p3,p4,p5,_⟩:=zJ R.pin (k:=bq s a) (by omega) (by omega)
  have em:(aK s.2.2.1 (bq s a)).getD 0=bL s.2.2.1 (bq s a):=rfl
  rw [p1,em,HD]
  unfold G6
  rw [if_neg (by omega)]
  refine ⟨trivial,fun q=>?_,fun q=>?_⟩
  ·have q:bL s.2.2.1 (bq s a)=1000000∨(bL s.2.2.1 (bq s a)=0∧s.2.2.1.length=16):=by
    simp only [Bool.or_eq_true,Bool.and_eq_true,decide_eq_true_eq] at q
    omega
   rw [p4 q,if_pos (by simp)]
   exact fun _=>⟨by first | exact trivial | rfl,by first | exact trivial | rfl,by first | exact trivial | rfl,trivial⟩
  ·have q:¬ (bL s.2.2.1 (bq s a)=1000000∨(bL s.2.2.1 (bq s a)=0∧s.2.2.1.length=16)):=by
    intro q1
    have:(decide (bL s.2.2.1 (bq s a)=1000000)||decide (bL s.2.2.1 (bq s a)=0)&&decide ((s.2.2.1.length:Int)=16))=true:=by
     simp only [Bool.or_eq_true,Bool.and_eq_true,decide_eq_true_eq]
     omega
    rw [this] at q
    cases q
   rw [p5 q,if_neg (by simp),gj (by omega) (by omega)]
   simp only [ak]
   exact ⟨by omega,trivial,by first | exact trivial | rfl,by first | exact trivial | rfl,by first | exact trivial | rfl,trivial⟩
 ·have k8:=of_decide_eq_true k8
  subst k8
  rw [Ik]
  unfold rq
  rw [if_neg (by omega)]
  refine ⟨trivial,fun q=>?_,fun q=>?_⟩
  ·have q:a<0∨255<a:=by simpa using q
   have hF:gY s.2.2.1 a=(0,false,4):=by
    unfold gY
    rw [if_neg (by have:=R.pin; omega),if_pos (by simp; omega)]
   have hd4:qx s.2.2.1 a=([],0,4):=by
    unfold qx
    rw [if_pos (by rw [hF]; simp),hF]
   rw [hd4,if_pos (by simp)]
   exact fun _=>⟨by first | exact trivial | rfl,by first | exact trivial | rfl,by first | exact trivial | rfl,trivial⟩
  have q:¬ (a<0∨255<a):=by simpa using q
  obtain ⟨_,p1,p2,p3,_,_,p6,p7⟩:=zJ R.pin (k:=a) (by omega) (by omega)
  have em:(aK s.2.2.1 a).getD 0=bL s.2.2.1 a:=rfl
  rw [p1,em]
  refine ⟨fun q1=>?_,fun q1=>?_⟩
  ·rw [p6 (of_decide_eq_true q1),if_pos (by simp)]
   exact fun _=>⟨by first | exact trivial | rfl,by first | exact trivial | rfl,by first | exact trivial | rfl,trivial⟩
  ·rw [p7 (of_decide_eq_false q1),if_neg (by simp)]
   simp only [ak]
   exact ⟨by omega,trivial,by first | exact trivial | rfl,by first | exact trivial | rfl,by first | exact trivial | rfl,trivial⟩
 ·have k9:=of_decide_eq_true k9
  subst k9
  have p1:cr [] s.2.2.1=s.2.2.1:=qa (nR R.pin).2.1
  have em:(aK s.2.2.1 a).getD 0=bL s.2.2.1 a:=rfl
  have eh:(ah a (aa s.1).1).1=dD s.1 a:=rfl
  have hP:nS s a b=if aO s≠0 then aO s else if cD (cu s) a=false then 8 else if b<0∨(dD s.1 a).2.1≤b then 4 else 0:=rfl
  rw [if_neg (by omega)] at hP
  rw [p1,em,eh,Ij]
  refine ⟨trivial,fun q=>?_,fun q=>⟨trivial,fun q1=>?_,fun q1=>?_⟩⟩
  ·rw [if_pos (FA R |>.2 (of_decide_eq_true q))] at hP
   rw [hP,if_pos (by omega)]
   exact fun _=>⟨by first | exact trivial | rfl,by first | exact trivial | rfl,by first | exact trivial | rfl,trivial⟩
  all_goals have hin:¬ cD (cu s) a=false:=fun hx=>of_decide_eq_false q (FA R |>.1 hx)
  all_goals rw [if_neg hin] at hP
  ·have q1:b<0∨(dD s.1 a).2.1≤b:=by simpa using q1
   rw [if_pos q1] at hP
   rw [hP,if_pos (by omega)]
   exact fun _=>⟨by first | exact trivial | rfl,by first | exact trivial | rfl,by first | exact trivial | rfl,trivial⟩
  ·have q1:¬ (b<0∨(dD s.1 a).2.1≤b):=by simpa using q1
   rw [if_neg q1] at hP
   have O:ObjAt s a:=R.obj (R.pinsIn a (cz.1 (by simpa using hin)))
   have:=O.x0
   have:=O.r0
   have:=O.fit
   rw [hP,if_neg (by omega)]
   simp only [ak]
   exact ⟨by omega,by omega,by omega,by omega,by omega,by first | exact trivial | rfl,by first | exact trivial | rfl,by omega,by first | exact trivial | rfl,by first | exact trivial | rfl,by omega,by first | exact trivial | rfl,by first | exact trivial | rfl,by omega,by first | exact trivial | rfl,by omega,by omega,by first | exact trivial | rfl,by first | exact trivial | rfl,by first | exact trivial | rfl,by first | exact trivial | rfl,by first | exact trivial | rfl,trivial⟩
 ·have k10:=of_decide_eq_true k10
  subst k10
  obtain ⟨a0,a1,a2,ex,eh⟩:=hi1 rfl
  subst ex
  have O:ObjAt s (bq s a):=R.obj (R.rootNam a0 a1 a2)
  have e0:=Hc h0 a0 a1 a2
  have:=O.x0
  have:=O.r0
  have:=O.b0
  have:=O.fit
  have hO:=FD (bq s a) R.hand
  rw [if_neg (by omega)] at hO
  rw [Gv]
  unfold CX
  rw [if_neg (by omega)]
  have hhd:=(jb R.hand).2
  refine ⟨⟨by omega,by omega,by first | exact trivial | rfl,by first | exact trivial | rfl⟩,fun ⟨i,bx,st2⟩ ⟨i0,i1,i2,i3⟩=>⟨fun hlt=>?_,fun hge=>?_⟩⟩
  ·simp only at i0 i1 i2 i3 hlt ⊢
   subst i2
   have hlt:=of_decide_eq_true hlt
   have hm:=hhd _ (aD ((0,false,0):cg) i0 hlt)
   have hil:i.toNat<bx.2.2.2.length:=by omega
   have hgs:∀ y:cg,(bx.2.2.2.set i.toNat y).getD i.toNat (0,false,0)=y:=fun y=>by simp [hil]
   rw [aS ((0,false,0):cg) i0 hlt] at i3
   simp only [aj] at i3
   simp only [hgs,List.length_set,ak]
   refine ⟨i0,hlt,fun q=>?_,fun q=>?_⟩
   ·have q':ci (bx.2.2.2.getD i.toNat (0,false,0))=true:=q
    rw [if_pos q'] at i3
    rw [← i3,if_neg (by omega)] at hO
    simp only [Bool.and_eq_true,decide_eq_true_eq] at q
    rw [hO,if_neg (by simp)]
    exact ⟨by omega,i0,by omega,by omega,i0,by omega,by omega,⟨i0,by omega,by omega,by omega⟩,rfl,rfl,rfl,trivial⟩
   ·have q':ci (bx.2.2.2.getD i.toNat (0,false,0))=false:=q
    rw [if_neg (by rw [q']; simp)] at i3
    exact ⟨by omega,⟨by omega,by omega,by first | exact trivial | rfl,i3⟩,by omega⟩
  ·simp only at i0 i1 i2 i3 hge ⊢
   rw [bn (of_decide_eq_false hge)] at i3
   simp only [aj] at i3
   rw [if_pos (by omega)] at hO
   rw [hO,if_pos (by simp)]
   exact fun _=>⟨by first | exact trivial | rfl,by first | exact trivial | rfl,by first | exact trivial | rfl,trivial⟩
 ·have hk:k=11∨k=12:=by
   rw [e5] at k11
   simpa using k11
  have hsl:k=11→cP s a=0:=fun h11=>by
   obtain ⟨a0,a1⟩:=hi2 (by subst h11; rfl)
   exact CF h0 a0 a1
  have hsr:k=11→0≤a∧a<s.2.1.length:=fun h11=>hi2 (by subst h11; rfl)
  rcases Ah (n:=v) R.hand with ⟨f1,f2,f3,f4⟩ | ⟨f1,f2⟩
  ·rw [f2]
   refine ⟨R.hand,fun q=>?_,fun q=>⟨fun h11=>?_,fun h11=>?_⟩⟩
   ·have:=of_decide_eq_true q
    omega
   ·have h11:=of_decide_eq_true h11
    have hL:sD s.2.2.2 v=((s.2.2.2.getD (gZ s.2.2.2 v).1.toNat (0,false,0)).2.2,0):=by
     unfold sD
     rw [if_neg (by omega)]
    have h1:=hsl h11
    have h2:=hsr h11
    subst h11
    rw [Cl]
    unfold Bi
    rw [if_neg (by omega),hL,if_neg (by simp)]
    exact ⟨f3,f4,h2.1,h2.2,by omega,by first | exact trivial | rfl,by first | exact trivial | rfl,by first | exact trivial | rfl,trivial⟩
   ·have h12:k=12:=by
     have:=of_decide_eq_false h11
     omega
    have hL:m7 s.2.2.2 v=(s.2.2.2.set (gZ s.2.2.2 v).1.toNat ((s.2.2.2.getD (gZ s.2.2.2 v).1.toNat (0,false,0)).1,false,0),0):=by
     unfold m7
     rw [if_neg (by omega)]
    subst h12
    rw [Gu]
    unfold uZ
    rw [if_neg (by omega),hL,if_neg (by simp)]
    exact ⟨f3,f4,f3,f4,by omega,by first | exact trivial | rfl,by first | exact trivial | rfl,by first | exact trivial | rfl,trivial⟩
  ·rw [f2]
   refine ⟨R.hand,fun _=>?_,fun q=>?_⟩
   ·rcases hk with h11 | h12
    ·have hL:sD s.2.2.2 v=(0,9):=by
      unfold sD
      rw [f1]
      rfl
     have h1:=hsl h11
     subst h11
     rw [Cl]
     unfold Bi
     rw [if_neg (by omega),hL,if_pos (by simp)]
     exact fun _=>⟨by first | exact trivial | rfl,by first | exact trivial | rfl,by first | exact trivial | rfl,trivial⟩
    ·have hL:m7 s.2.2.2 v=([],9):=by
      unfold m7
      rw [f1]
      rfl
     subst h12
     rw [Gu]
     unfold uZ
     rw [if_neg (by omega),hL,if_pos (by simp)]
     exact fun _=>⟨by first | exact trivial | rfl,by first | exact trivial | rfl,by first | exact trivial | rfl,trivial⟩
   ·simp at q
 ·have h3:¬ k=3∧¬ k=4:=by
   rw [e3] at k34
   simpa using k34
  have h5:¬ k=5∧¬ k=6:=by
   rw [e4] at k56
   simpa using k56
  have h11:¬ k=11∧¬ k=12:=by
   rw [e5] at k11
   simpa using k11
  have k1:=of_decide_eq_false k1
  have k2:=of_decide_eq_false k2
  have k7:=of_decide_eq_false k7
  have k8:=of_decide_eq_false k8
  have k9:=of_decide_eq_false k9
  have k10:=of_decide_eq_false k10
  have hk:k=13:=by omega
  subst hk
  obtain ⟨a0,a1⟩:=hi2 rfl
  have hS:=CF h0 a0 a1
  rw [Gt]
  unfold wc
  rw [if_neg (by omega)]
  exact ⟨a0,a1,by omega,by first | exact trivial | rfl,by first | exact trivial | rfl,by first | exact trivial | rfl,trivial⟩
theorem FM:Fj.ok Tryz.prog 18:=aI (ann:=GK) (ae gJ (ae kF (ae gq (ae ji (ae BS (ae Ef (ae uq (ae lD (ae zL (ae Ei (ae BT (ae El (ae nT ap))))))))))))) Tryz.func18 (by kernel_rfl) Dt
end Go.Proofs.YtglchojglcobjaaGreat
