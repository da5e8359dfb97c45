
import Derived.Test.YtglchojglcobjaaGreatDeeds
namespace Go.Proofs.YtglchojglcobjaaGreat
open Go
set_option maxRecDepth 100000
set_option maxHeartbeats 1000000
set_option maxHeartbeats 8000000
def an_rDone:Nat→Option LoopGen
 | 3000051=>some an_in
 | 5204000001=>some an_in
 | 3000059=>some an_in
 | 3000060=>some an_in
 | 1000018=>some { rd:=[.dat 155 ty_I],A:=fun (k:Int)=>{ cs:=[.dat 156 .bool],inv:=fun (b:Bool)=>b=rooted k,mu:=fun _=>0 } }
 | 1000028=>some { rd:=[.dat 155 ty_I],A:=fun (k:Int)=>{ cs:=[.dat 195 .bool],inv:=fun (b:Bool)=>b=slots1 k,mu:=fun _=>0 } }
 | 1000023=>some { rd:=[.box 2 ty_Store,.box 3 ty_Op],A:=fun ((s,k,a,_):StoreD×Int×Int×Int×Int×Int)=>{ cs:=[.dat 16 ty_I,.box 17 ty_Head,.box 4 ty_Store],inv:=fun ((x,h,_):Int×Head×StoreD)=>(rooted k=true→0≤a∧a<s.2.1.length∧0≤rootAt s a∧x=rootAt s a∧h=hdA s.1 x)∧(slots1 k=true→0≤a∧a<s.2.1.length),mu:=fun _=>0 } }
 | 1000049=>some { rd:=[.dat 210 ty_I],A:=fun (k:Int)=>{ cs:=[.dat 267 .bool],inv:=fun (b:Bool)=>b=(decide (k=3)||decide (k=4)),mu:=fun _=>0 } }
 | 1000059=>some { rd:=[.dat 210 ty_I],A:=fun (k:Int)=>{ cs:=[.dat 328 .bool],inv:=fun (b:Bool)=>b=(decide (k=5)||decide (k=6)),mu:=fun _=>0 } }
 | 1000100=>some { rd:=[.dat 210 ty_I],A:=fun (k:Int)=>{ cs:=[.dat 535 .bool],inv:=fun (b:Bool)=>b=(decide (k=11)||decide (k=12)),mu:=fun _=>0 } }
 | 92=>some { rd:=[.box 2 ty_Store],A:=fun (s:StoreD)=>{ cs:=[.dat 499 ty_I,.boxS 10 [.own 50 ty_W,.own 3 ty_I,.own 89 ty_Pin,.own 87 ty_Slot],.box 4 ty_Store],inv:=fun ((i,b,_):Int×StoreD×StoreD)=>0≤i∧i≤s.2.2.2.length∧b=s∧findFrom freeSlot i (s.2.2.2.drop i.toNat)=findFrom freeSlot 0 s.2.2.2,mu:=fun ((i,_):Int×StoreD×StoreD)=>(s.2.2.2.length - i).toNat } }
 | _=>none
def sp_rDone:Spec:={ Ts:=[ty_Store,ty_Op],Rs:=[.dat ty_Store,.dat ty_W,.dat ty_I],al:=true,pre:=fun _=>True,F:=fun ((s,k,a,b,c,v):StoreD×Int×Int×Int×Int×Int)=>doneF s k a b c v }
def pv_rDone:Prop :=
  ∀ (x:(List Int×List Int×List (Int×Int)×List (Int×Bool×Int))×Int×Int×Int×Int×Int),((x.1.1.length * (8:Nat)≤big∧∀ (x_1:Int),x_1∈x.1.1→InR IntKind.u64 x_1)∧(x.1.2.1.length * (8:Nat)≤big∧∀ (x_1:Int),x_1∈x.1.2.1→InR IntKind.i64 x_1)∧(x.1.2.2.1.length * ((8:Nat)+(8:Nat))≤big∧∀ (x_1:Int×Int),x_1∈x.1.2.2.1→InR IntKind.i64 x_1.1∧InR IntKind.i64 x_1.2)∧x.1.2.2.2.length * ((8:Nat)+((8:Nat)+(8:Nat)))≤big∧∀ (x_1:Int×Bool×Int),x_1∈x.1.2.2.2→InR IntKind.i64 x_1.1∧True∧InR IntKind.i64 x_1.2.2)∧InR IntKind.i64 x.2.1∧InR IntKind.i64 x.2.2.1∧InR IntKind.i64 x.2.2.2.1∧InR IntKind.i64 x.2.2.2.2.1∧InR IntKind.u64 x.2.2.2.2.2→True→∀ (_:Array Value),True∧x.1.2.1.length * (8:Nat)≤big∧x.1.2.2.1.length * ((8:Nat)+(8:Nat))≤big∧x.1.2.1=x.1.2.1∧x.1.2.2.1=x.1.2.2.1∧x.1.2.2.1=x.1.2.2.1∧x.1.2.2.2=x.1.2.2.2∧x.1.2.2.2=x.1.2.2.2∧x.1.2.2.2=x.1.2.2.2∧x.1.2.2.2.length * ((8:Nat)+((8:Nat)+(8:Nat)))≤big∧((decide (x.2.1<(1:Int))||decide ((13:Int)<x.2.1)||!(decide (x.2.1≠(2:Int))&&decide (x.2.1≠(12:Int)))&&decide (x.2.2.1≠(0:Int))||!(decide (x.2.1=(1:Int))||decide ((3:Int)≤x.2.1)&&decide (x.2.1≤(6:Int))||decide (x.2.1=(9:Int)))&&decide (x.2.2.2.1≠(0:Int))||!(decide (x.2.1=(1:Int))||decide (x.2.1=(3:Int))||decide (x.2.1=(4:Int)))&&decide (x.2.2.2.2.1≠(0:Int))||!(decide (x.2.1=(1:Int))||decide (x.2.1=(6:Int))||decide (x.2.1=(11:Int))||decide (x.2.1=(12:Int)))&&decide (x.2.2.2.2.2≠(0:Int)))=true→∀ (_:Array Value),(([]:List Int),([]:List Int),([]:List (Int×Int)),([]:List (Int×Bool×Int)))=(doneF x.1 x.2.1 x.2.2.1 x.2.2.2.1 x.2.2.2.2.1 x.2.2.2.2.2).1∧(0:Int)=(doneF x.1 x.2.1 x.2.2.1 x.2.2.2.1 x.2.2.2.2.1 x.2.2.2.2.2).2.1∧(1:Int)=(doneF x.1 x.2.1 x.2.2.1 x.2.2.2.1 x.2.2.2.2.1 x.2.2.2.2.2).2.2∧True)∧((decide (x.2.1<(1:Int))||decide ((13:Int)<x.2.1)||!(decide (x.2.1≠(2:Int))&&decide (x.2.1≠(12:Int)))&&decide (x.2.2.1≠(0:Int))||!(decide (x.2.1=(1:Int))||decide ((3:Int)≤x.2.1)&&decide (x.2.1≤(6:Int))||decide (x.2.1=(9:Int)))&&decide (x.2.2.2.1≠(0:Int))||!(decide (x.2.1=(1:Int))||decide (x.2.1=(3:Int))||decide (x.2.1=(4:Int)))&&decide (x.2.2.2.2.1≠(0:Int))||!(decide (x.2.1=(1:Int))||decide (x.2.1=(6:Int))||decide (x.2.1=(11:Int))||decide (x.2.1=(12:Int)))&&decide (x.2.2.2.2.2≠(0:Int)))=false→True∧(decide (storeF x.1≠(0:Int))=true→∀ (_:Array Value),(([]:List Int),([]:List Int),([]:List (Int×Int)),([]:List (Int×Bool×Int)))=(doneF x.1 x.2.1 x.2.2.1 x.2.2.2.1 x.2.2.2.2.1 x.2.2.2.2.2).1∧(0:Int)=(doneF x.1 x.2.1 x.2.2.1 x.2.2.2.1 x.2.2.2.2.1 x.2.2.2.2.2).2.1∧storeF x.1=(doneF x.1 x.2.1 x.2.2.1 x.2.2.2.1 x.2.2.2.2.1 x.2.2.2.2.2).2.2∧True)∧(decide (storeF x.1≠(0:Int))=false→((decide (x.2.1=(3:Int))=true→decide (x.2.1=(3:Int))=rooted x.2.1)∧(decide (x.2.1=(3:Int))=false→(decide (x.2.1=(4:Int))=true→decide (x.2.1=(4:Int))=rooted x.2.1)∧(decide (x.2.1=(4:Int))=false→(decide (x.2.1=(5:Int))=true→decide (x.2.1=(5:Int))=rooted x.2.1)∧(decide (x.2.1=(5:Int))=false→(decide (x.2.1=(6:Int))=true→decide (x.2.1=(6:Int))=rooted x.2.1)∧(decide (x.2.1=(6:Int))=false→(decide (x.2.1=(7:Int))=true→decide (x.2.1=(7:Int))=rooted x.2.1)∧(decide (x.2.1=(7:Int))=false→decide (x.2.1=(10:Int))=rooted x.2.1))))))∧∀ (x_1:Bool),x_1=rooted x.2.1→((x_1=true→∀ (_:Array Value),((!(decide ((0:Int)≤x.2.2.1)&&decide (x.2.2.1<(↑x.1.2.1.length:Int))))=false→(0:Int)≤x.2.2.1)∧((!(decide ((0:Int)≤x.2.2.1)&&decide (x.2.2.1<(↑x.1.2.1.length:Int))))=false→x.2.2.1<(↑x.1.2.1.length:Int))∧((!(decide ((0:Int)≤x.2.2.1)&&decide (x.2.2.1<(↑x.1.2.1.length:Int)))||decide (x.1.2.1.getD x.2.2.1.toNat (0:Int)<(0:Int)))=true→∀ (_:Array Value),(([]:List Int),([]:List Int),([]:List (Int×Int)),([]:List (Int×Bool×Int)))=(doneF x.1 x.2.1 x.2.2.1 x.2.2.2.1 x.2.2.2.2.1 x.2.2.2.2.2).1∧(0:Int)=(doneF x.1 x.2.1 x.2.2.1 x.2.2.2.1 x.2.2.2.2.1 x.2.2.2.2.2).2.1∧(5:Int)=(doneF x.1 x.2.1 x.2.2.1 x.2.2.2.1 x.2.2.2.2.1 x.2.2.2.2.2).2.2∧True)∧((!(decide ((0:Int)≤x.2.2.1)&&decide (x.2.2.1<(↑x.1.2.1.length:Int)))||decide (x.1.2.1.getD x.2.2.1.toNat (0:Int)<(0:Int)))=false→(0:Int)≤x.2.2.1∧x.2.2.1<(↑x.1.2.1.length:Int)∧True∧(rooted x.2.1=true→(0:Int)≤x.2.2.1∧x.2.2.1<(↑x.1.2.1.length:Int)∧(0:Int)≤rootAt x.1 x.2.2.1∧x.1.2.1.getD x.2.2.1.toNat (0:Int)=rootAt x.1 x.2.2.1∧(headAtL (x.1.2.1.getD x.2.2.1.toNat (0:Int)) (spotsF x.1.1).1).1=hdA x.1.1 (x.1.2.1.getD x.2.2.1.toNat (0:Int)))∧(slots1 x.2.1=true→(0:Int)≤x.2.2.1∧x.2.2.1<(↑x.1.2.1.length:Int))))∧(x_1=false→((decide (x.2.1=(1:Int))=true→decide (x.2.1=(1:Int))=slots1 x.2.1)∧(decide (x.2.1=(1:Int))=false→(decide (x.2.1=(11:Int))=true→decide (x.2.1=(11:Int))=slots1 x.2.1)∧(decide (x.2.1=(11:Int))=false→decide (x.2.1=(13:Int))=slots1 x.2.1)))∧∀ (x_2:Bool),x_2=slots1 x.2.1→(x_2=true→∀ (_:Array Value),((!(decide ((0:Int)≤x.2.2.1)&&decide (x.2.2.1<(↑x.1.2.1.length:Int))))=true→∀ (_:Array Value),(([]:List Int),([]:List Int),([]:List (Int×Int)),([]:List (Int×Bool×Int)))=(doneF x.1 x.2.1 x.2.2.1 x.2.2.2.1 x.2.2.2.2.1 x.2.2.2.2.2).1∧(0:Int)=(doneF x.1 x.2.1 x.2.2.1 x.2.2.2.1 x.2.2.2.2.1 x.2.2.2.2.2).2.1∧(5:Int)=(doneF x.1 x.2.1 x.2.2.1 x.2.2.2.1 x.2.2.2.2.1 x.2.2.2.2.2).2.2∧True)∧((!(decide ((0:Int)≤x.2.2.1)&&decide (x.2.2.1<(↑x.1.2.1.length:Int))))=false→(rooted x.2.1=true→(0:Int)≤x.2.2.1∧x.2.2.1<(↑x.1.2.1.length:Int)∧(0:Int)≤rootAt x.1 x.2.2.1∧(0:Int)=rootAt x.1 x.2.2.1∧((0:Int),(0:Int),(0:Int),false)=hdA x.1.1 (0:Int))∧(slots1 x.2.1=true→(0:Int)≤x.2.2.1∧x.2.2.1<(↑x.1.2.1.length:Int))))∧(x_2=false→(rooted x.2.1=true→(0:Int)≤x.2.2.1∧x.2.2.1<(↑x.1.2.1.length:Int)∧(0:Int)≤rootAt x.1 x.2.2.1∧(0:Int)=rootAt x.1 x.2.2.1∧((0:Int),(0:Int),(0:Int),false)=hdA x.1.1 (0:Int))∧(slots1 x.2.1=true→(0:Int)≤x.2.2.1∧x.2.2.1<(↑x.1.2.1.length:Int)))))∧∀ (x_2:Int×(Int×Int×Int×Bool)×List Int×List Int×List (Int×Int)×List (Int×Bool×Int)),(rooted x.2.1=true→(0:Int)≤x.2.2.1∧x.2.2.1<(↑x.1.2.1.length:Int)∧(0:Int)≤rootAt x.1 x.2.2.1∧x_2.1=rootAt x.1 x.2.2.1∧x_2.2.1=hdA x.1.1 x_2.1)∧(slots1 x.2.1=true→(0:Int)≤x.2.2.1∧x.2.2.1<(↑x.1.2.1.length:Int))→(decide (x.2.1=(1:Int))=true→(0:Int)≤x.2.2.2.2.2∧(0:Int)<(65536:Int)∧True∧(decide (headFault (x.2.2.2.1,x.2.2.2.2.1,IntKind.i64.wrap (x.2.2.2.2.2 % (65536:Int)),false)≠(0:Int))=true→∀ (_:Array Value),(([]:List Int),([]:List Int),([]:List (Int×Int)),([]:List (Int×Bool×Int)))=(doneF x.1 x.2.1 x.2.2.1 x.2.2.2.1 x.2.2.2.2.1 x.2.2.2.2.2).1∧(0:Int)=(doneF x.1 x.2.1 x.2.2.1 x.2.2.2.1 x.2.2.2.2.1 x.2.2.2.2.2).2.1∧headFault (x.2.2.2.1,x.2.2.2.2.1,IntKind.i64.wrap (x.2.2.2.2.2 % (65536:Int)),false)=(doneF x.1 x.2.1 x.2.2.1 x.2.2.2.1 x.2.2.2.2.1 x.2.2.2.2.2).2.2∧True)∧(decide (headFault (x.2.2.2.1,x.2.2.2.2.1,IntKind.i64.wrap (x.2.2.2.2.2 % (65536:Int)),false)≠(0:Int))=false→(takePre x.1 (x.2.2.2.1,x.2.2.2.2.1,IntKind.i64.wrap (x.2.2.2.2.2 % (65536:Int)),false)∧(0:Int)≤x.2.2.1∧x.2.2.1<(↑x.1.2.1.length:Int))∧((laidF x.1 x.2.2.1 (x.2.2.2.1,x.2.2.2.2.1,IntKind.i64.wrap (x.2.2.2.2.2 % (65536:Int)),false)).2=true→(laidF x.1 x.2.2.1 (x.2.2.2.1,x.2.2.2.2.1,IntKind.i64.wrap (x.2.2.2.2.2 % (65536:Int)),false)).1=(doneF x.1 x.2.1 x.2.2.1 x.2.2.2.1 x.2.2.2.2.1 x.2.2.2.2.2).1∧(0:Int)=(doneF x.1 x.2.1 x.2.2.1 x.2.2.2.1 x.2.2.2.2.1 x.2.2.2.2.2).2.1∧(0:Int)=(doneF x.1 x.2.1 x.2.2.1 x.2.2.2.1 x.2.2.2.2.1 x.2.2.2.2.2).2.2∧True)∧((laidF x.1 x.2.2.1 (x.2.2.2.1,x.2.2.2.2.1,IntKind.i64.wrap (x.2.2.2.2.2 % (65536:Int)),false)).2=false→storeF x.1=(0:Int)∧(takePre (sweptS x.1) (x.2.2.2.1,x.2.2.2.2.1,IntKind.i64.wrap (x.2.2.2.2.2 % (65536:Int)),false)∧(0:Int)≤x.2.2.1∧x.2.2.1<(↑(sweptS x.1).2.1.length:Int))∧x.1.1=x.1.1∧x.1.2.1=x.1.2.1∧x.1.2.2.1=x.1.2.2.1∧x.1.2.2.2=x.1.2.2.2∧storeF x.1=(0:Int)∧(sweptS x.1).1=(sweptS x.1).1∧(sweptS x.1).2.1=(sweptS x.1).2.1∧(sweptS x.1).2.2.1=(sweptS x.1).2.2.1∧(sweptS x.1).2.2.2=(sweptS x.1).2.2.2∧x.2.2.1=x.2.2.1∧x.2.2.2.1=x.2.2.2.1∧x.2.2.2.2.1=x.2.2.2.2.1∧IntKind.i64.wrap (x.2.2.2.2.2 % (65536:Int))=IntKind.i64.wrap (x.2.2.2.2.2 % (65536:Int))∧false=false∧(takePre (sweptS x.1) (x.2.2.2.1,x.2.2.2.2.1,IntKind.i64.wrap (x.2.2.2.2.2 % (65536:Int)),false)∧(0:Int)≤x.2.2.1∧x.2.2.1<(↑(sweptS x.1).2.1.length:Int))∧(laidF (sweptS x.1) x.2.2.1 (x.2.2.2.1,x.2.2.2.2.1,IntKind.i64.wrap (x.2.2.2.2.2 % (65536:Int)),false)).1.1=(laidF (sweptS x.1) x.2.2.1 (x.2.2.2.1,x.2.2.2.2.1,IntKind.i64.wrap (x.2.2.2.2.2 % (65536:Int)),false)).1.1∧(laidF (sweptS x.1) x.2.2.1 (x.2.2.2.1,x.2.2.2.2.1,IntKind.i64.wrap (x.2.2.2.2.2 % (65536:Int)),false)).1.2.1=(laidF (sweptS x.1) x.2.2.1 (x.2.2.2.1,x.2.2.2.2.1,IntKind.i64.wrap (x.2.2.2.2.2 % (65536:Int)),false)).1.2.1∧(laidF (sweptS x.1) x.2.2.1 (x.2.2.2.1,x.2.2.2.2.1,IntKind.i64.wrap (x.2.2.2.2.2 % (65536:Int)),false)).1.2.2.1=(laidF (sweptS x.1) x.2.2.1 (x.2.2.2.1,x.2.2.2.2.1,IntKind.i64.wrap (x.2.2.2.2.2 % (65536:Int)),false)).1.2.2.1∧(laidF (sweptS x.1) x.2.2.1 (x.2.2.2.1,x.2.2.2.2.1,IntKind.i64.wrap (x.2.2.2.2.2 % (65536:Int)),false)).1.2.2.2=(laidF (sweptS x.1) x.2.2.1 (x.2.2.2.1,x.2.2.2.2.1,IntKind.i64.wrap (x.2.2.2.2.2 % (65536:Int)),false)).1.2.2.2∧(laidF (sweptS x.1) x.2.2.1 (x.2.2.2.1,x.2.2.2.2.1,IntKind.i64.wrap (x.2.2.2.2.2 % (65536:Int)),false)).2=(laidF (sweptS x.1) x.2.2.1 (x.2.2.2.1,x.2.2.2.2.1,IntKind.i64.wrap (x.2.2.2.2.2 % (65536:Int)),false)).2∧(laidF (sweptS x.1) x.2.2.1 (x.2.2.2.1,x.2.2.2.2.1,IntKind.i64.wrap (x.2.2.2.2.2 % (65536:Int)),false)).1.1=(laidF (sweptS x.1) x.2.2.1 (x.2.2.2.1,x.2.2.2.2.1,IntKind.i64.wrap (x.2.2.2.2.2 % (65536:Int)),false)).1.1∧(laidF (sweptS x.1) x.2.2.1 (x.2.2.2.1,x.2.2.2.2.1,IntKind.i64.wrap (x.2.2.2.2.2 % (65536:Int)),false)).1.2.1=(laidF (sweptS x.1) x.2.2.1 (x.2.2.2.1,x.2.2.2.2.1,IntKind.i64.wrap (x.2.2.2.2.2 % (65536:Int)),false)).1.2.1∧(laidF (sweptS x.1) x.2.2.1 (x.2.2.2.1,x.2.2.2.2.1,IntKind.i64.wrap (x.2.2.2.2.2 % (65536:Int)),false)).1.2.2.1=(laidF (sweptS x.1) x.2.2.1 (x.2.2.2.1,x.2.2.2.2.1,IntKind.i64.wrap (x.2.2.2.2.2 % (65536:Int)),false)).1.2.2.1∧(laidF (sweptS x.1) x.2.2.1 (x.2.2.2.1,x.2.2.2.2.1,IntKind.i64.wrap (x.2.2.2.2.2 % (65536:Int)),false)).1.2.2.2=(laidF (sweptS x.1) x.2.2.1 (x.2.2.2.1,x.2.2.2.2.1,IntKind.i64.wrap (x.2.2.2.2.2 % (65536:Int)),false)).1.2.2.2∧(laidF (sweptS x.1) x.2.2.1 (x.2.2.2.1,x.2.2.2.2.1,IntKind.i64.wrap (x.2.2.2.2.2 % (65536:Int)),false)).2=(laidF (sweptS x.1) x.2.2.1 (x.2.2.2.1,x.2.2.2.2.1,IntKind.i64.wrap (x.2.2.2.2.2 % (65536:Int)),false)).2∧(laidF (sweptS x.1) x.2.2.1 (x.2.2.2.1,x.2.2.2.2.1,IntKind.i64.wrap (x.2.2.2.2.2 % (65536:Int)),false)).1.1=(laidF (sweptS x.1) x.2.2.1 (x.2.2.2.1,x.2.2.2.2.1,IntKind.i64.wrap (x.2.2.2.2.2 % (65536:Int)),false)).1.1∧(laidF (sweptS x.1) x.2.2.1 (x.2.2.2.1,x.2.2.2.2.1,IntKind.i64.wrap (x.2.2.2.2.2 % (65536:Int)),false)).1.2.1=(laidF (sweptS x.1) x.2.2.1 (x.2.2.2.1,x.2.2.2.2.1,IntKind.i64.wrap (x.2.2.2.2.2 % (65536:Int)),false)).1.2.1∧(laidF (sweptS x.1) x.2.2.1 (x.2.2.2.1,x.2.2.2.2.1,IntKind.i64.wrap (x.2.2.2.2.2 % (65536:Int)),false)).1.2.2.1=(laidF (sweptS x.1) x.2.2.1 (x.2.2.2.1,x.2.2.2.2.1,IntKind.i64.wrap (x.2.2.2.2.2 % (65536:Int)),false)).1.2.2.1∧(laidF (sweptS x.1) x.2.2.1 (x.2.2.2.1,x.2.2.2.2.1,IntKind.i64.wrap (x.2.2.2.2.2 % (65536:Int)),false)).1.2.2.2=(laidF (sweptS x.1) x.2.2.1 (x.2.2.2.1,x.2.2.2.2.1,IntKind.i64.wrap (x.2.2.2.2.2 % (65536:Int)),false)).1.2.2.2∧(laidF (sweptS x.1) x.2.2.1 (x.2.2.2.1,x.2.2.2.2.1,IntKind.i64.wrap (x.2.2.2.2.2 % (65536:Int)),false)).2=(laidF (sweptS x.1) x.2.2.1 (x.2.2.2.1,x.2.2.2.2.1,IntKind.i64.wrap (x.2.2.2.2.2 % (65536:Int)),false)).2∧(laidF (sweptS x.1) x.2.2.1 (x.2.2.2.1,x.2.2.2.2.1,IntKind.i64.wrap (x.2.2.2.2.2 % (65536:Int)),false)).2=(laidF (sweptS x.1) x.2.2.1 (x.2.2.2.1,x.2.2.2.2.1,IntKind.i64.wrap (x.2.2.2.2.2 % (65536:Int)),false)).2∧((laidF (sweptS x.1) x.2.2.1 (x.2.2.2.1,x.2.2.2.2.1,IntKind.i64.wrap (x.2.2.2.2.2 % (65536:Int)),false)).2=true→(laidF (sweptS x.1) x.2.2.1 (x.2.2.2.1,x.2.2.2.2.1,IntKind.i64.wrap (x.2.2.2.2.2 % (65536:Int)),false)).1=(doneF x.1 x.2.1 x.2.2.1 x.2.2.2.1 x.2.2.2.2.1 x.2.2.2.2.2).1∧(1:Int)=(doneF x.1 x.2.1 x.2.2.1 x.2.2.2.1 x.2.2.2.2.1 x.2.2.2.2.2).2.1∧(0:Int)=(doneF x.1 x.2.1 x.2.2.1 x.2.2.2.1 x.2.2.2.2.1 x.2.2.2.2.2).2.2∧True)∧((laidF (sweptS x.1) x.2.2.1 (x.2.2.2.1,x.2.2.2.2.1,IntKind.i64.wrap (x.2.2.2.2.2 % (65536:Int)),false)).2=false→∀ (_:Array Value),(([]:List Int),([]:List Int),([]:List (Int×Int)),([]:List (Int×Bool×Int)))=(doneF x.1 x.2.1 x.2.2.1 x.2.2.2.1 x.2.2.2.2.1 x.2.2.2.2.2).1∧(0:Int)=(doneF x.1 x.2.1 x.2.2.1 x.2.2.2.1 x.2.2.2.2.1 x.2.2.2.2.2).2.1∧(7:Int)=(doneF x.1 x.2.1 x.2.2.1 x.2.2.2.1 x.2.2.2.2.1 x.2.2.2.2.2).2.2∧True))))∧(decide (x.2.1=(1:Int))=false→(decide (x.2.1=(2:Int))=true→storeF x.1=(0:Int)∧(spotsF (sweptS x.1).1).2=(0:Int)∧IntKind.u64.wrap (sumG (gapsL false ([]:List Gap) (spotsF (sweptS x.1).1).1))=IntKind.u64.wrap (sumG (gapsL false ([]:List Gap) (spotsF (sweptS x.1).1).1))∧sweptS x.1=(doneF x.1 x.2.1 x.2.2.1 x.2.2.2.1 x.2.2.2.2.1 x.2.2.2.2.2).1∧IntKind.u64.wrap (sumG (gapsL false ([]:List Gap) (spotsF (sweptS x.1).1).1))=(doneF x.1 x.2.1 x.2.2.1 x.2.2.2.1 x.2.2.2.2.1 x.2.2.2.2.2).2.1∧(0:Int)=(doneF x.1 x.2.1 x.2.2.1 x.2.2.2.1 x.2.2.2.2.1 x.2.2.2.2.2).2.2∧True)∧(decide (x.2.1=(2:Int))=false→((decide (x.2.1=(3:Int))=true→decide (x.2.1=(3:Int))=(decide (x.2.1=(3:Int))||decide (x.2.1=(4:Int))))∧(decide (x.2.1=(3:Int))=false→decide (x.2.1=(4:Int))=(decide (x.2.1=(3:Int))||decide (x.2.1=(4:Int)))))∧∀ (x_3:Bool),x_3=(decide (x.2.1=(3:Int))||decide (x.2.1=(4:Int)))→(x_3=true→((decide (x.2.2.2.1<(0:Int))||decide (x_2.2.1.1≤x.2.2.2.1))=true→∀ (_:Array Value),(([]:List Int),([]:List Int),([]:List (Int×Int)),([]:List (Int×Bool×Int)))=(doneF x.1 x.2.1 x.2.2.1 x.2.2.2.1 x.2.2.2.2.1 x.2.2.2.2.2).1∧(0:Int)=(doneF x.1 x.2.1 x.2.2.1 x.2.2.2.1 x.2.2.2.2.1 x.2.2.2.2.2).2.1∧(4:Int)=(doneF x.1 x.2.1 x.2.2.1 x.2.2.2.1 x.2.2.2.2.1 x.2.2.2.2.2).2.2∧True)∧((decide (x.2.2.2.1<(0:Int))||decide (x_2.2.1.1≤x.2.2.2.1))=false→∀ (_:Array Value),((!(decide ((0:Int)≤x.2.2.2.2.1)&&decide (x.2.2.2.2.1<(↑x.1.2.1.length:Int))))=true→∀ (_:Array Value),(([]:List Int),([]:List Int),([]:List (Int×Int)),([]:List (Int×Bool×Int)))=(doneF x.1 x.2.1 x.2.2.1 x.2.2.2.1 x.2.2.2.2.1 x.2.2.2.2.2).1∧(0:Int)=(doneF x.1 x.2.1 x.2.2.1 x.2.2.2.1 x.2.2.2.2.1 x.2.2.2.2.2).2.1∧(5:Int)=(doneF x.1 x.2.1 x.2.2.1 x.2.2.2.1 x.2.2.2.2.1 x.2.2.2.2.2).2.2∧True)∧((!(decide ((0:Int)≤x.2.2.2.2.1)&&decide (x.2.2.2.2.1<(↑x.1.2.1.length:Int))))=false→(decide (x.2.1=(3:Int))=true→True∧(0:Int)≤x.2.2.2.1∧x.2.2.2.1<(↑(namedL x.1.1 x_2.1 (headAtL x_2.1 (spotsF x.1.1).1).1).length:Int)∧(0:Int)≤x.2.2.2.2.1∧x.2.2.2.2.1<(↑x.1.2.1.length:Int)∧x.2.2.2.2.1.toNat<x.1.2.1.length∧(x.1.1,x.1.2.1.set x.2.2.2.2.1.toNat ((namedL x.1.1 x_2.1 (headAtL x_2.1 (spotsF x.1.1).1).1).getD x.2.2.2.1.toNat (0:Int)),x.1.2.2)=(doneF x.1 x.2.1 x.2.2.1 x.2.2.2.1 x.2.2.2.2.1 x.2.2.2.2.2).1∧(0:Int)=(doneF x.1 x.2.1 x.2.2.1 x.2.2.2.1 x.2.2.2.2.1 x.2.2.2.2.2).2.1∧(0:Int)=(doneF x.1 x.2.1 x.2.2.1 x.2.2.2.1 x.2.2.2.2.1 x.2.2.2.2.2).2.2∧True)∧(decide (x.2.1=(3:Int))=false→(0:Int)≤x.2.2.2.2.1∧x.2.2.2.2.1<(↑x.1.2.1.length:Int)∧(checkF x.1.1).2.2=(0:Int)∧((writtenF x.1.1 x_2.1 x.2.2.2.1 (x.1.2.1.getD x.2.2.2.2.1.toNat (0:Int))).1,x.1.2)=(doneF x.1 x.2.1 x.2.2.1 x.2.2.2.1 x.2.2.2.2.1 x.2.2.2.2.2).1∧(0:Int)=(doneF x.1 x.2.1 x.2.2.1 x.2.2.2.1 x.2.2.2.2.1 x.2.2.2.2.2).2.1∧(0:Int)=(doneF x.1 x.2.1 x.2.2.1 x.2.2.2.1 x.2.2.2.2.1 x.2.2.2.2.2).2.2∧True))))∧(x_3=false→((decide (x.2.1=(5:Int))=true→decide (x.2.1=(5:Int))=(decide (x.2.1=(5:Int))||decide (x.2.1=(6:Int))))∧(decide (x.2.1=(5:Int))=false→decide (x.2.1=(6:Int))=(decide (x.2.1=(5:Int))||decide (x.2.1=(6:Int)))))∧∀ (x_4:Bool),x_4=(decide (x.2.1=(5:Int))||decide (x.2.1=(6:Int)))→(x_4=true→((decide (x.2.2.2.1<(0:Int))||decide (x_2.2.1.2.1≤x.2.2.2.1))=true→∀ (_:Array Value),(([]:List Int),([]:List Int),([]:List (Int×Int)),([]:List (Int×Bool×Int)))=(doneF x.1 x.2.1 x.2.2.1 x.2.2.2.1 x.2.2.2.2.1 x.2.2.2.2.2).1∧(0:Int)=(doneF x.1 x.2.1 x.2.2.1 x.2.2.2.1 x.2.2.2.2.1 x.2.2.2.2.2).2.1∧(4:Int)=(doneF x.1 x.2.1 x.2.2.1 x.2.2.2.1 x.2.2.2.2.1 x.2.2.2.2.2).2.2∧True)∧((decide (x.2.2.2.1<(0:Int))||decide (x_2.2.1.2.1≤x.2.2.2.1))=false→InR IntKind.i64 (x_2.1+(1:Int))∧InR IntKind.i64 (x_2.1+(1:Int)+x_2.2.1.1)∧InR IntKind.i64 (x_2.1+(1:Int)+x_2.2.1.1+x.2.2.2.1)∧(decide (x.2.1=(5:Int))=true→(0:Int)≤x_2.1+(1:Int)+x_2.2.1.1+x.2.2.2.1∧x_2.1+(1:Int)+x_2.2.1.1+x.2.2.2.1<(↑x.1.1.length:Int)∧x.1.1=x.1.1∧x_2.1+(1:Int)+x_2.2.1.1+x.2.2.2.1=x_2.1+(1:Int)+x_2.2.1.1+x.2.2.2.1∧(0:Int)≤x_2.1+(1:Int)+x_2.2.1.1+x.2.2.2.1∧x_2.1+(1:Int)+x_2.2.1.1+x.2.2.2.1<(↑x.1.1.length:Int)∧x.1.1.getD (x_2.1+(1:Int)+x_2.2.1.1+x.2.2.2.1).toNat (0:Int)=x.1.1.getD (x_2.1+(1:Int)+x_2.2.1.1+x.2.2.2.1).toNat (0:Int)∧x.1.1.getD (x_2.1+(1:Int)+x_2.2.1.1+x.2.2.2.1).toNat (0:Int)=x.1.1.getD (x_2.1+(1:Int)+x_2.2.1.1+x.2.2.2.1).toNat (0:Int)∧x.1=(doneF x.1 x.2.1 x.2.2.1 x.2.2.2.1 x.2.2.2.2.1 x.2.2.2.2.2).1∧x.1.1.getD (x_2.1+(1:Int)+x_2.2.1.1+x.2.2.2.1).toNat (0:Int)=(doneF x.1 x.2.1 x.2.2.1 x.2.2.2.1 x.2.2.2.2.1 x.2.2.2.2.2).2.1∧(0:Int)=(doneF x.1 x.2.1 x.2.2.1 x.2.2.2.1 x.2.2.2.2.1 x.2.2.2.2.2).2.2∧True)∧(decide (x.2.1=(5:Int))=false→(0:Int)≤x_2.1+(1:Int)+x_2.2.1.1+x.2.2.2.1∧x_2.1+(1:Int)+x_2.2.1.1+x.2.2.2.1<(↑x.1.1.length:Int)∧(x_2.1+(1:Int)+x_2.2.1.1+x.2.2.2.1).toNat<x.1.1.length∧(x.1.1.set (x_2.1+(1:Int)+x_2.2.1.1+x.2.2.2.1).toNat x.2.2.2.2.2,x.1.2)=(doneF x.1 x.2.1 x.2.2.1 x.2.2.2.1 x.2.2.2.2.1 x.2.2.2.2.2).1∧(0:Int)=(doneF x.1 x.2.1 x.2.2.1 x.2.2.2.1 x.2.2.2.2.1 x.2.2.2.2.2).2.1∧(0:Int)=(doneF x.1 x.2.1 x.2.2.1 x.2.2.2.1 x.2.2.2.2.1 x.2.2.2.2.2).2.2∧True)))∧(x_4=false→(decide (x.2.1=(7:Int))=true→True∧((decide ((mget (putAll ([]:List Pin) x.1.2.2.1) x_2.1).getD (0:Int)=(1000000:Int))||decide ((mget (putAll ([]:List Pin) x.1.2.2.1) x_2.1).getD (0:Int)=(0:Int))&&decide ((↑x.1.2.2.1.length:Int)=(16:Int)))=true→∀ (_:Array Value),(([]:List Int),([]:List Int),([]:List (Int×Int)),([]:List (Int×Bool×Int)))=(doneF x.1 x.2.1 x.2.2.1 x.2.2.2.1 x.2.2.2.2.1 x.2.2.2.2.2).1∧(0:Int)=(doneF x.1 x.2.1 x.2.2.1 x.2.2.2.1 x.2.2.2.2.1 x.2.2.2.2.2).2.1∧(7:Int)=(doneF x.1 x.2.1 x.2.2.1 x.2.2.2.1 x.2.2.2.2.1 x.2.2.2.2.2).2.2∧True)∧((decide ((mget (putAll ([]:List Pin) x.1.2.2.1) x_2.1).getD (0:Int)=(1000000:Int))||decide ((mget (putAll ([]:List Pin) x.1.2.2.1) x_2.1).getD (0:Int)=(0:Int))&&decide ((↑x.1.2.2.1.length:Int)=(16:Int)))=false→InR IntKind.i64 ((mget (putAll ([]:List Pin) x.1.2.2.1) x_2.1).getD (0:Int)+(1:Int))∧True∧(x.1.1,x.1.2.1,pinList (mput (putAll ([]:List Pin) x.1.2.2.1) x_2.1 ((mget (putAll ([]:List Pin) x.1.2.2.1) x_2.1).getD (0:Int)+(1:Int))),x.1.2.2.2)=(doneF x.1 x.2.1 x.2.2.1 x.2.2.2.1 x.2.2.2.2.1 x.2.2.2.2.2).1∧IntKind.u64.wrap x_2.1=(doneF x.1 x.2.1 x.2.2.1 x.2.2.2.1 x.2.2.2.2.1 x.2.2.2.2.2).2.1∧(0:Int)=(doneF x.1 x.2.1 x.2.2.1 x.2.2.2.1 x.2.2.2.2.1 x.2.2.2.2.2).2.2∧True))∧(decide (x.2.1=(7:Int))=false→(decide (x.2.1=(8:Int))=true→True∧((decide (x.2.2.1<(0:Int))||decide ((255:Int)<x.2.2.1))=true→∀ (_:Array Value),(([]:List Int),([]:List Int),([]:List (Int×Int)),([]:List (Int×Bool×Int)))=(doneF x.1 x.2.1 x.2.2.1 x.2.2.2.1 x.2.2.2.2.1 x.2.2.2.2.2).1∧(0:Int)=(doneF x.1 x.2.1 x.2.2.1 x.2.2.2.1 x.2.2.2.2.1 x.2.2.2.2.2).2.1∧(4:Int)=(doneF x.1 x.2.1 x.2.2.1 x.2.2.2.1 x.2.2.2.2.1 x.2.2.2.2.2).2.2∧True)∧((decide (x.2.2.1<(0:Int))||decide ((255:Int)<x.2.2.1))=false→(decide ((mget (putAll ([]:List Pin) x.1.2.2.1) x.2.2.1).getD (0:Int)=(0:Int))=true→∀ (_:Array Value),(([]:List Int),([]:List Int),([]:List (Int×Int)),([]:List (Int×Bool×Int)))=(doneF x.1 x.2.1 x.2.2.1 x.2.2.2.1 x.2.2.2.2.1 x.2.2.2.2.2).1∧(0:Int)=(doneF x.1 x.2.1 x.2.2.1 x.2.2.2.1 x.2.2.2.2.1 x.2.2.2.2.2).2.1∧(5:Int)=(doneF x.1 x.2.1 x.2.2.1 x.2.2.2.1 x.2.2.2.2.1 x.2.2.2.2.2).2.2∧True)∧(decide ((mget (putAll ([]:List Pin) x.1.2.2.1) x.2.2.1).getD (0:Int)=(0:Int))=false→InR IntKind.i64 ((mget (putAll ([]:List Pin) x.1.2.2.1) x.2.2.1).getD (0:Int) - (1:Int))∧True∧(x.1.1,x.1.2.1,pinList (mput (putAll ([]:List Pin) x.1.2.2.1) x.2.2.1 ((mget (putAll ([]:List Pin) x.1.2.2.1) x.2.2.1).getD (0:Int) - (1:Int))),x.1.2.2.2)=(doneF x.1 x.2.1 x.2.2.1 x.2.2.2.1 x.2.2.2.2.1 x.2.2.2.2.2).1∧(0:Int)=(doneF x.1 x.2.1 x.2.2.1 x.2.2.2.1 x.2.2.2.2.1 x.2.2.2.2.2).2.1∧(0:Int)=(doneF x.1 x.2.1 x.2.2.1 x.2.2.2.1 x.2.2.2.2.1 x.2.2.2.2.2).2.2∧True)))∧(decide (x.2.1=(8:Int))=false→(decide (x.2.1=(9:Int))=true→True∧(decide ((mget (putAll ([]:List Pin) x.1.2.2.1) x.2.2.1).getD (0:Int)=(0:Int))=true→∀ (_:Array Value),(([]:List Int),([]:List Int),([]:List (Int×Int)),([]:List (Int×Bool×Int)))=(doneF x.1 x.2.1 x.2.2.1 x.2.2.2.1 x.2.2.2.2.1 x.2.2.2.2.2).1∧(0:Int)=(doneF x.1 x.2.1 x.2.2.1 x.2.2.2.1 x.2.2.2.2.1 x.2.2.2.2.2).2.1∧(8:Int)=(doneF x.1 x.2.1 x.2.2.1 x.2.2.2.1 x.2.2.2.2.1 x.2.2.2.2.2).2.2∧True)∧(decide ((mget (putAll ([]:List Pin) x.1.2.2.1) x.2.2.1).getD (0:Int)=(0:Int))=false→True∧((decide (x.2.2.2.1<(0:Int))||decide ((headAtL x.2.2.1 (spotsF x.1.1).1).1.2.1≤x.2.2.2.1))=true→∀ (_:Array Value),(([]:List Int),([]:List Int),([]:List (Int×Int)),([]:List (Int×Bool×Int)))=(doneF x.1 x.2.1 x.2.2.1 x.2.2.2.1 x.2.2.2.2.1 x.2.2.2.2.2).1∧(0:Int)=(doneF x.1 x.2.1 x.2.2.1 x.2.2.2.1 x.2.2.2.2.1 x.2.2.2.2.2).2.1∧(4:Int)=(doneF x.1 x.2.1 x.2.2.1 x.2.2.2.1 x.2.2.2.2.1 x.2.2.2.2.2).2.2∧True)∧((decide (x.2.2.2.1<(0:Int))||decide ((headAtL x.2.2.1 (spotsF x.1.1).1).1.2.1≤x.2.2.2.1))=false→InR IntKind.i64 (x.2.2.1+(1:Int))∧InR IntKind.i64 (x.2.2.1+(1:Int)+(headAtL x.2.2.1 (spotsF x.1.1).1).1.1)∧InR IntKind.i64 (x.2.2.1+(1:Int)+(headAtL x.2.2.1 (spotsF x.1.1).1).1.1+x.2.2.2.1)∧(0:Int)≤x.2.2.1+(1:Int)+(headAtL x.2.2.1 (spotsF x.1.1).1).1.1+x.2.2.2.1∧x.2.2.1+(1:Int)+(headAtL x.2.2.1 (spotsF x.1.1).1).1.1+x.2.2.2.1<(↑x.1.1.length:Int)∧x.1.1=x.1.1∧x.2.2.1=x.2.2.1∧InR IntKind.i64 (x.2.2.1+(1:Int))∧x.2.2.1+(1:Int)=x.2.2.1+(1:Int)∧(headAtL x.2.2.1 (spotsF x.1.1).1).1.1=(headAtL x.2.2.1 (spotsF x.1.1).1).1.1∧InR IntKind.i64 (x.2.2.1+(1:Int)+(headAtL x.2.2.1 (spotsF x.1.1).1).1.1)∧x.2.2.1+(1:Int)+(headAtL x.2.2.1 (spotsF x.1.1).1).1.1=x.2.2.1+(1:Int)+(headAtL x.2.2.1 (spotsF x.1.1).1).1.1∧x.2.2.2.1=x.2.2.2.1∧InR IntKind.i64 (x.2.2.1+(1:Int)+(headAtL x.2.2.1 (spotsF x.1.1).1).1.1+x.2.2.2.1)∧x.2.2.1+(1:Int)+(headAtL x.2.2.1 (spotsF x.1.1).1).1.1+x.2.2.2.1=x.2.2.1+(1:Int)+(headAtL x.2.2.1 (spotsF x.1.1).1).1.1+x.2.2.2.1∧(0:Int)≤x.2.2.1+(1:Int)+(headAtL x.2.2.1 (spotsF x.1.1).1).1.1+x.2.2.2.1∧x.2.2.1+(1:Int)+(headAtL x.2.2.1 (spotsF x.1.1).1).1.1+x.2.2.2.1<(↑x.1.1.length:Int)∧x.1.1.getD (x.2.2.1+(1:Int)+(headAtL x.2.2.1 (spotsF x.1.1).1).1.1+x.2.2.2.1).toNat (0:Int)=x.1.1.getD (x.2.2.1+(1:Int)+(headAtL x.2.2.1 (spotsF x.1.1).1).1.1+x.2.2.2.1).toNat (0:Int)∧x.1.1.getD (x.2.2.1+(1:Int)+(headAtL x.2.2.1 (spotsF x.1.1).1).1.1+x.2.2.2.1).toNat (0:Int)=x.1.1.getD (x.2.2.1+(1:Int)+(headAtL x.2.2.1 (spotsF x.1.1).1).1.1+x.2.2.2.1).toNat (0:Int)∧x.1=(doneF x.1 x.2.1 x.2.2.1 x.2.2.2.1 x.2.2.2.2.1 x.2.2.2.2.2).1∧x.1.1.getD (x.2.2.1+(1:Int)+(headAtL x.2.2.1 (spotsF x.1.1).1).1.1+x.2.2.2.1).toNat (0:Int)=(doneF x.1 x.2.1 x.2.2.1 x.2.2.2.1 x.2.2.2.2.1 x.2.2.2.2.2).2.1∧(0:Int)=(doneF x.1 x.2.1 x.2.2.1 x.2.2.2.1 x.2.2.2.2.1 x.2.2.2.2.2).2.2∧True)))∧(decide (x.2.1=(9:Int))=false→(decide (x.2.1=(10:Int))=true→((0:Int)≤(0:Int)∧(0:Int)≤(↑x.1.2.2.2.length:Int)∧x.1=x.1∧findFrom freeSlot (0:Int) (List.drop (Int.toNat (0:Int)) x.1.2.2.2)=findFrom freeSlot (0:Int) x.1.2.2.2)∧∀ (x_5:Int×(List Int×List Int×List (Int×Int)×List (Int×Bool×Int))×List Int×List Int×List (Int×Int)×List (Int×Bool×Int)),(0:Int)≤x_5.1∧x_5.1≤(↑x.1.2.2.2.length:Int)∧x_5.2.1=x.1∧findFrom freeSlot x_5.1 (List.drop x_5.1.toNat x.1.2.2.2)=findFrom freeSlot (0:Int) x.1.2.2.2→(decide (x_5.1<(↑x.1.2.2.2.length:Int))=true→(0:Int)≤x_5.1∧x_5.1<(↑x.1.2.2.2.length:Int)∧((!(x.1.2.2.2.getD x_5.1.toNat ((0:Int),false,(0:Int))).2.1&&decide ((x.1.2.2.2.getD x_5.1.toNat ((0:Int),false,(0:Int))).1<(65535:Int)))=true→InR IntKind.i64 ((x.1.2.2.2.getD x_5.1.toNat ((0:Int),false,(0:Int))).1+(1:Int))∧(0:Int)≤x_5.1∧x_5.1<(↑x_5.2.1.2.2.2.length:Int)∧x_5.1.toNat<x_5.2.1.2.2.2.length∧(0:Int)≤x_5.1∧x_5.1<(↑(x_5.2.1.2.2.2.set x_5.1.toNat ((x.1.2.2.2.getD x_5.1.toNat ((0:Int),false,(0:Int))).1+(1:Int),true,x_2.1)).length:Int)∧x_5.1.toNat<(x_5.2.1.2.2.2.set x_5.1.toNat ((x.1.2.2.2.getD x_5.1.toNat ((0:Int),false,(0:Int))).1+(1:Int),true,x_2.1)).length∧((0:Int)≤x_5.1∧x_5.1<(65536:Int)∧(0:Int)≤((x_5.2.1.2.2.2.set x_5.1.toNat ((x.1.2.2.2.getD x_5.1.toNat ((0:Int),false,(0:Int))).1+(1:Int),true,x_2.1)).getD x_5.1.toNat ((0:Int),false,(0:Int))).1∧((x_5.2.1.2.2.2.set x_5.1.toNat ((x.1.2.2.2.getD x_5.1.toNat ((0:Int),false,(0:Int))).1+(1:Int),true,x_2.1)).getD x_5.1.toNat ((0:Int),false,(0:Int))).1≤(65535:Int))∧(x_5.2.1.1,x_5.2.1.2.1,x_5.2.1.2.2.1,x_5.2.1.2.2.2.set x_5.1.toNat ((x.1.2.2.2.getD x_5.1.toNat ((0:Int),false,(0:Int))).1+(1:Int),true,x_2.1))=(doneF x.1 x.2.1 x.2.2.1 x.2.2.2.1 x.2.2.2.2.1 x.2.2.2.2.2).1∧handName x_5.1 ((x_5.2.1.2.2.2.set x_5.1.toNat ((x.1.2.2.2.getD x_5.1.toNat ((0:Int),false,(0:Int))).1+(1:Int),true,x_2.1)).getD x_5.1.toNat ((0:Int),false,(0:Int)))=(doneF x.1 x.2.1 x.2.2.1 x.2.2.2.1 x.2.2.2.2.1 x.2.2.2.2.2).2.1∧(0:Int)=(doneF x.1 x.2.1 x.2.2.1 x.2.2.2.1 x.2.2.2.2.1 x.2.2.2.2.2).2.2∧True)∧((!(x.1.2.2.2.getD x_5.1.toNat ((0:Int),false,(0:Int))).2.1&&decide ((x.1.2.2.2.getD x_5.1.toNat ((0:Int),false,(0:Int))).1<(65535:Int)))=false→InR IntKind.i64 (x_5.1+(1:Int))∧((0:Int)≤x_5.1+(1:Int)∧x_5.1+(1:Int)≤(↑x.1.2.2.2.length:Int)∧x_5.2.1=x.1∧findFrom freeSlot (x_5.1+(1:Int)) (List.drop (x_5.1+(1:Int)).toNat x.1.2.2.2)=findFrom freeSlot (0:Int) x.1.2.2.2)∧((↑x.1.2.2.2.length:Int) - (x_5.1+(1:Int))).toNat<((↑x.1.2.2.2.length:Int) - x_5.1).toNat))∧(decide (x_5.1<(↑x.1.2.2.2.length:Int))=false→∀ (_:Array Value),(([]:List Int),([]:List Int),([]:List (Int×Int)),([]:List (Int×Bool×Int)))=(doneF x.1 x.2.1 x.2.2.1 x.2.2.2.1 x.2.2.2.2.1 x.2.2.2.2.2).1∧(0:Int)=(doneF x.1 x.2.1 x.2.2.1 x.2.2.2.1 x.2.2.2.2.1 x.2.2.2.2.2).2.1∧(7:Int)=(doneF x.1 x.2.1 x.2.2.1 x.2.2.2.1 x.2.2.2.2.1 x.2.2.2.2.2).2.2∧True))∧(decide (x.2.1=(10:Int))=false→((decide (x.2.1=(11:Int))=true→decide (x.2.1=(11:Int))=(decide (x.2.1=(11:Int))||decide (x.2.1=(12:Int))))∧(decide (x.2.1=(11:Int))=false→decide (x.2.1=(12:Int))=(decide (x.2.1=(11:Int))||decide (x.2.1=(12:Int)))))∧∀ (x_5:Bool),x_5=(decide (x.2.1=(11:Int))||decide (x.2.1=(12:Int)))→(x_5=true→handsF x.1.2.2.2=(0:Int)∧(decide (handOfFrom x.2.2.2.2.2 (0:Int) x.1.2.2.2<(0:Int))=true→∀ (_:Array Value),(([]:List Int),([]:List Int),([]:List (Int×Int)),([]:List (Int×Bool×Int)))=(doneF x.1 x.2.1 x.2.2.1 x.2.2.2.1 x.2.2.2.2.1 x.2.2.2.2.2).1∧(0:Int)=(doneF x.1 x.2.1 x.2.2.1 x.2.2.2.1 x.2.2.2.2.1 x.2.2.2.2.2).2.1∧(9:Int)=(doneF x.1 x.2.1 x.2.2.1 x.2.2.2.1 x.2.2.2.2.1 x.2.2.2.2.2).2.2∧True)∧(decide (handOfFrom x.2.2.2.2.2 (0:Int) x.1.2.2.2<(0:Int))=false→(decide (x.2.1=(11:Int))=true→(0:Int)≤handOfFrom x.2.2.2.2.2 (0:Int) x.1.2.2.2∧handOfFrom x.2.2.2.2.2 (0:Int) x.1.2.2.2<(↑x.1.2.2.2.length:Int)∧(0:Int)≤x.2.2.1∧x.2.2.1<(↑x.1.2.1.length:Int)∧x.2.2.1.toNat<x.1.2.1.length∧(x.1.1,x.1.2.1.set x.2.2.1.toNat (x.1.2.2.2.getD (handOfFrom x.2.2.2.2.2 (0:Int) x.1.2.2.2).toNat ((0:Int),false,(0:Int))).2.2,x.1.2.2)=(doneF x.1 x.2.1 x.2.2.1 x.2.2.2.1 x.2.2.2.2.1 x.2.2.2.2.2).1∧(0:Int)=(doneF x.1 x.2.1 x.2.2.1 x.2.2.2.1 x.2.2.2.2.1 x.2.2.2.2.2).2.1∧(0:Int)=(doneF x.1 x.2.1 x.2.2.1 x.2.2.2.1 x.2.2.2.2.1 x.2.2.2.2.2).2.2∧True)∧(decide (x.2.1=(11:Int))=false→(0:Int)≤handOfFrom x.2.2.2.2.2 (0:Int) x.1.2.2.2∧handOfFrom x.2.2.2.2.2 (0:Int) x.1.2.2.2<(↑x.1.2.2.2.length:Int)∧(0:Int)≤handOfFrom x.2.2.2.2.2 (0:Int) x.1.2.2.2∧handOfFrom x.2.2.2.2.2 (0:Int) x.1.2.2.2<(↑x.1.2.2.2.length:Int)∧(handOfFrom x.2.2.2.2.2 (0:Int) x.1.2.2.2).toNat<x.1.2.2.2.length∧(x.1.1,x.1.2.1,x.1.2.2.1,x.1.2.2.2.set (handOfFrom x.2.2.2.2.2 (0:Int) x.1.2.2.2).toNat ((x.1.2.2.2.getD (handOfFrom x.2.2.2.2.2 (0:Int) x.1.2.2.2).toNat ((0:Int),false,(0:Int))).1,false,(0:Int)))=(doneF x.1 x.2.1 x.2.2.1 x.2.2.2.1 x.2.2.2.2.1 x.2.2.2.2.2).1∧(0:Int)=(doneF x.1 x.2.1 x.2.2.1 x.2.2.2.1 x.2.2.2.2.1 x.2.2.2.2.2).2.1∧(0:Int)=(doneF x.1 x.2.1 x.2.2.1 x.2.2.2.1 x.2.2.2.2.1 x.2.2.2.2.2).2.2∧True)))∧(x_5=false→(0:Int)≤x.2.2.1∧x.2.2.1<(↑x.1.2.1.length:Int)∧x.2.2.1.toNat<x.1.2.1.length∧(x.1.1,x.1.2.1.set x.2.2.1.toNat (-1:Int),x.1.2.2)=(doneF x.1 x.2.1 x.2.2.1 x.2.2.2.1 x.2.2.2.2.1 x.2.2.2.2.2).1∧(0:Int)=(doneF x.1 x.2.1 x.2.2.1 x.2.2.2.1 x.2.2.2.2.1 x.2.2.2.2.2).2.1∧(0:Int)=(doneF x.1 x.2.1 x.2.2.1 x.2.2.2.1 x.2.2.2.2.1 x.2.2.2.2.2).2.2∧True)))))))))))
theorem vcp_rDone:pv_rDone:=by
 unfold pv_rDone
 intro ⟨s,k,a,b,c,v⟩ ⟨⟨⟨hb,hw⟩,⟨hb2,_⟩,⟨hb3,_⟩,hb4,_⟩,_,ha,_,_,hv⟩ _
 simp only at hb hw hb2 hb3 hb4 ha hv ⊢
 simp only [InR] at ha hv
 have hD:doneF s k a b c v=if opBad k a b c v=true then (nilStore,0,1) else if storeF s≠0 then (nilStore,0,storeF s) else deed s k a b c v:=rfl
 refine fun tm=>⟨trivial,hb2,hb3,by first | exact trivial | rfl,by first | exact trivial | rfl,by first | exact trivial | rfl,by first | exact trivial | rfl,by first | exact trivial | rfl,by first | exact trivial | rfl,hb4,fun h=>?_,fun h=>⟨trivial,fun h1=>?_,fun h1=>?_⟩⟩
 ·have h:opBad k a b c v=true:=h
  rw [hD,if_pos h]
  exact fun _=>⟨by first | exact trivial | rfl,by first | exact trivial | rfl,by first | exact trivial | rfl,trivial⟩
 ·have h:opBad k a b c v=false:=h
  rw [hD,if_neg (by rw [h]; simp),if_pos (of_decide_eq_true h1)]
  exact fun _=>⟨by first | exact trivial | rfl,by first | exact trivial | rfl,by first | exact trivial | rfl,trivial⟩
 have h:opBad k a b c v=false:=h
 have h0:storeF s=0:=by simpa using of_decide_eq_false h1
 rw [if_neg (by rw [h]; simp),if_neg (by omega)] at hD
 have hk13:1≤k∧k≤13:=by
  unfold opBad at h
  simp only [Bool.or_eq_false_iff,decide_eq_false_iff_not] at h
  omega
 have R:=right_of hw h0
 have hal:=R.al
 have hsm:=R.small
 rw [hD]
 refine ⟨⟨fun q=>by unfold rooted; simp [q],fun q3=>⟨fun q=>by unfold rooted; simp [q],fun q4=>⟨fun q=>by unfold rooted; simp [q],fun q5=>⟨fun q=>by unfold rooted; simp [q],fun q6=>⟨fun q=>by unfold rooted; simp [q],fun q7=>by unfold rooted; simp [q3,q4,q5,q6,q7]⟩⟩⟩⟩⟩,fun x1 e1=>⟨⟨fun hr tm=>⟨fun q=>?_,fun q=>?_,fun q=>?_,fun q=>?_⟩,fun hr=>⟨⟨fun q=>by unfold slots1; simp [q],fun q1=>⟨fun q=>by unfold slots1; simp [q],fun q2=>by unfold slots1; simp [q1,q2]⟩⟩,fun x2 e2=>⟨fun hs tm=>⟨fun q=>?_,fun q=>?_⟩,fun hs=>⟨fun hx=>?_,fun hx=>?_⟩⟩⟩⟩,fun ⟨x,hd,st⟩ ⟨hi1,hi2⟩=>?_⟩⟩
 ·have q:0≤a∧a<s.2.1.length:=by simpa using q
  exact q.1
 ·have q:0≤a∧a<s.2.1.length:=by simpa using q
  exact q.2
 ·have hr:rooted k=true:=by rw [← e1]; exact hr
  have q:a<0∨(s.2.1.length:Int)≤a∨s.2.1.getD a.toNat 0<0:=by
   simp only [Bool.or_eq_true,Bool.not_eq_true',Bool.and_eq_false_iff,decide_eq_false_iff_not,decide_eq_true_eq] at q
   omega
  rw [deed_none b c v h0 hr q]
  exact fun _=>⟨by first | exact trivial | rfl,by first | exact trivial | rfl,by first | exact trivial | rfl,trivial⟩
 ·have q:(0≤a∧a<s.2.1.length)∧¬ s.2.1.getD a.toNat 0<0:=by
   simp only [Bool.or_eq_false_iff,Bool.not_eq_false',Bool.and_eq_true,decide_eq_false_iff_not,decide_eq_true_eq] at q
   exact q
  exact ⟨by omega,by omega,trivial,fun _=>⟨by omega,by omega,by unfold rootAt; omega,rfl,rfl⟩,fun _=>⟨by omega,by omega⟩⟩
 ·have hs:slots1 k=true:=by rw [← e2]; exact hs
  have q:a<0∨(s.2.1.length:Int)≤a:=by
   simp only [Bool.not_eq_true',Bool.and_eq_false_iff,decide_eq_false_iff_not] at q
   omega
  rw [deed_slot b c v h0 hs q]
  exact fun _=>⟨by first | exact trivial | rfl,by first | exact trivial | rfl,by first | exact trivial | rfl,trivial⟩
 ·have q:0≤a∧a<s.2.1.length:=by simpa using q
  exact ⟨fun hx=>absurd hx (by rw [← e1,hr]; simp),fun _=>⟨q.1,q.2⟩⟩
 ·exact absurd hx (by rw [← e1,hr]; simp)
 ·exact absurd hx (by rw [← e2,hs]; simp)
 simp only at hi1 hi2 ⊢
 clear hb hb2 hb3 hb4 h1 tm hD h
 refine ⟨fun k1=>?_,fun k1=>⟨fun k2=>?_,fun k2=>⟨⟨fun q=>by simp [q],fun q=>by simp [q]⟩,fun x3 e3=>⟨fun k34=>?_,fun k34=>⟨⟨fun q=>by simp [q],fun q=>by simp [q]⟩,fun x4 e4=>⟨fun k56=>?_,fun k56=>⟨fun k7=>?_,fun k7=>⟨fun k8=>?_,fun k8=>⟨fun k9=>?_,fun k9=>⟨fun k10=>?_,fun k10=>⟨⟨fun q=>by simp [q],fun q=>by simp [q]⟩,fun x5 e5=>⟨fun k11=>?_,fun k11=>?_⟩⟩⟩⟩⟩⟩⟩⟩⟩⟩⟩⟩
 ·have k1:=of_decide_eq_true k1
  subst k1
  obtain ⟨a0,a1⟩:=hi2 rfl
  have hwr:IntKind.i64.wrap (v % 65536)=v % 65536:=wrapI (by omega) (by omega)
  have hS:=slot0 h0 a0 a1
  simp only [hwr,deed1]
  have hM:makeF s a (b,c,v % 65536,false)=if slotErr s a≠0 then (nilStore,false,slotErr s a) else if headErr (b,c,v % 65536,false)≠0 then (nilStore,false,headErr (b,c,v % 65536,false)) else
   if (laidS s a (b,c,v % 65536,false)).2=true then ((laidS s a (b,c,v % 65536,false)).1,false,0) else if (laidS (sweptS s) a (b,c,v % 65536,false)).2=true then ((laidS (sweptS s) a (b,c,v % 65536,false)).1,true,0) else (nilStore,false,7):=rfl
  have hH:headErr (b,c,v % 65536,false)=if headFault (b,c,v % 65536,false)≠0 then headFault (b,c,v % 65536,false) else if false=true then 3 else 0:=rfl
  have hL:∀ t,laidF t a (b,c,v % 65536,false)=if (laidS t a (b,c,v % 65536,false)).2=true then ((laidS t a (b,c,v % 65536,false)).1,true) else (nilStore,false):=fun _=>rfl
  have hsl:(sweptS s).2.1.length=s.2.1.length:=List.length_map ..
  generalize (b,c,v % 65536,false)=hh at *
  rw [if_neg (by omega)] at hM
  refine ⟨by omega,by omega,trivial,fun q=>?_,fun q=>?_⟩
  ·have q:=of_decide_eq_true q
   rw [if_pos q] at hH
   rw [hM,if_pos (by omega),hH]
   exact fun _=>⟨by first | exact trivial | rfl,by first | exact trivial | rfl,by first | exact trivial | rfl,trivial⟩
  have q:=of_decide_eq_false q
  rw [if_neg q,if_neg (by simp)] at hH
  rw [if_neg (by omega)] at hM
  refine ⟨⟨⟨R.chk,hH⟩,a0,a1⟩,fun q1=>?_,fun q1=>?_⟩
  ·have hs1:(laidS s a hh).2=true:=by
    rw [hL] at q1
    split at q1
    ·assumption
    ·cases q1
   rw [hM,if_pos hs1,hL,if_pos hs1]
   exact ⟨by first | exact trivial | rfl,by first | exact trivial | rfl,by first | exact trivial | rfl,trivial⟩
  have hs1:¬ (laidS s a hh).2=true:=by
   rw [hL] at q1
   split at q1
   ·cases q1
   ·assumption
  rw [if_neg hs1] at hM
  have hpre:takePre (sweptS s) hh∧0≤a∧a<((sweptS s).2.1.length:Int):=⟨⟨R.slidOK.1,hH⟩,a0,by omega⟩
  refine ⟨h0,hpre,by first | exact trivial | rfl,by first | exact trivial | rfl,by first | exact trivial | rfl,by first | exact trivial | rfl,h0,by first | exact trivial | rfl,by first | exact trivial | rfl,by first | exact trivial | rfl,by first | exact trivial | rfl,by first | exact trivial | rfl,by first | exact trivial | rfl,by first | exact trivial | rfl,by first | exact trivial | rfl,by first | exact trivial | rfl,hpre,by first | exact trivial | rfl,by first | exact trivial | rfl,by first | exact trivial | rfl,by first | exact trivial | rfl,by first | exact trivial | rfl,by first | exact trivial | rfl,by first | exact trivial | rfl,by first | exact trivial | rfl,by first | exact trivial | rfl,by first | exact trivial | rfl,by first | exact trivial | rfl,by first | exact trivial | rfl,by first | exact trivial | rfl,by first | exact trivial | rfl,by first | exact trivial | rfl,by first | exact trivial | rfl,fun q2=>?_,fun q2=>?_⟩
  ·have hs2:(laidS (sweptS s) a hh).2=true:=by
    rw [hL] at q2
    split at q2
    ·assumption
    ·cases q2
   rw [hM,if_pos hs2,hL,if_pos hs2]
   exact ⟨by first | exact trivial | rfl,by first | exact trivial | rfl,by first | exact trivial | rfl,trivial⟩
  ·have hs2:¬ (laidS (sweptS s) a hh).2=true:=by
    rw [hL] at q2
    split at q2
    ·cases q2
    ·assumption
   rw [hM,if_neg hs2]
   exact fun _=>⟨by first | exact trivial | rfl,by first | exact trivial | rfl,by first | exact trivial | rfl,trivial⟩
 ·have k2:=of_decide_eq_true k2
  subst k2
  have hz:=(checkF_in R.slidOK.1).2.2.2.1
  have hg:=sumG_in (gapsL false [] (spotsF (slidA s)).1) (fun r hr=>by have:=R.gaps.2.1 r hr; omega)
  have hl:=R.gaps.2.2
  have e:(sweptS s).1=slidA s:=rfl
  have hC:collectT s=(sweptS s,sumG (gapsL false [] (spotsF (slidA s)).1)):=rfl
  rw [deed2,hC,e,wrapU (by omega) (by omega)]
  exact ⟨h0,hz,by first | exact trivial | rfl,by first | exact trivial | rfl,by first | exact trivial | rfl,by first | exact trivial | rfl,trivial⟩
 ·have hk:k=3∨k=4:=by
   rw [e3] at k34
   simpa using k34
  obtain ⟨a0,a1,a2,ex,eh⟩:=hi1 (by rcases hk with rfl | rfl <;> rfl)
  subst ex
  subst eh
  have O:ObjAt s (rootAt s a):=R.obj (R.rootNam a0 a1 a2)
  have e0:=obj0 h0 a0 a1 a2
  have hR:refErr s a b c=if b<0∨(hdA s.1 (rootAt s a)).1≤b then 4 else if c<0∨(s.2.1.length:Int)≤c then 5 else 0:=by
   unfold refErr
   rw [if_neg (by omega)]
  refine ⟨fun q=>?_,fun q tm=>⟨fun q2=>?_,fun q2=>?_⟩⟩
  ·have q:b<0∨(hdA s.1 (rootAt s a)).1≤b:=by simpa using q
   rw [if_pos q] at hR
   rw [ref_bad v hk (by omega),hR]
   exact fun _=>⟨by first | exact trivial | rfl,by first | exact trivial | rfl,by first | exact trivial | rfl,trivial⟩
  all_goals have q:¬ (b<0∨(hdA s.1 (rootAt s a)).1≤b):=by simpa using q
  all_goals rw [if_neg q] at hR
  ·have q2:c<0∨(s.2.1.length:Int)≤c:=by
    simp only [Bool.not_eq_true',Bool.and_eq_false_iff,decide_eq_false_iff_not] at q2
    omega
   rw [if_pos q2] at hR
   rw [ref_bad v hk (by omega),hR]
   exact fun _=>⟨by first | exact trivial | rfl,by first | exact trivial | rfl,by first | exact trivial | rfl,trivial⟩
  have q5:0≤c∧c<s.2.1.length:=by simpa using q2
  rw [if_neg (by omega)] at hR
  refine ⟨fun k3=>?_,fun k3=>?_⟩
  ·have k3:=of_decide_eq_true k3
   subst k3
   obtain ⟨n1,n2⟩:=named_at R O (b:=b) (by omega) (by omega)
   rw [deed3,n2]
   unfold refF
   rw [if_neg (by omega)]
   exact ⟨trivial,by omega,by omega,q5.1,q5.2,by omega,by first | exact trivial | rfl,by first | exact trivial | rfl,by first | exact trivial | rfl,trivial⟩
  ·have k4:k=4:=by
    have:=of_decide_eq_false k3
    omega
   subst k4
   have hwt:=written_at R O (b:=b) (c:=c) (by omega) (by omega) q5.1 q5.2
   rw [deed4]
   unfold setF
   rw [if_neg (by omega),← hwt]
   exact ⟨q5.1,q5.2,R.chk,by first | exact trivial | rfl,by first | exact trivial | rfl,by first | exact trivial | rfl,trivial⟩
 ·have hk:k=5∨k=6:=by
   rw [e4] at k56
   simpa using k56
  obtain ⟨a0,a1,a2,ex,eh⟩:=hi1 (by rcases hk with rfl | rfl <;> rfl)
  subst ex
  subst eh
  have O:ObjAt s (rootAt s a):=R.obj (R.rootNam a0 a1 a2)
  have e0:=obj0 h0 a0 a1 a2
  have hB:bodyErr s a b=if b<0∨(hdA s.1 (rootAt s a)).2.1≤b then 4 else 0:=by
   unfold bodyErr
   rw [if_neg (by omega)]
  have:=O.x0
  have:=O.r0
  have:=O.fit
  refine ⟨fun q=>?_,fun q=>?_⟩
  ·have q:b<0∨(hdA s.1 (rootAt s a)).2.1≤b:=by simpa using q
   rw [if_pos q] at hB
   rw [body_bad c v hk (by omega),hB]
   exact fun _=>⟨by first | exact trivial | rfl,by first | exact trivial | rfl,by first | exact trivial | rfl,trivial⟩
  have q:¬ (b<0∨(hdA s.1 (rootAt s a)).2.1≤b):=by simpa using q
  rw [if_neg q] at hB
  simp only [InR]
  refine ⟨by omega,by omega,by omega,fun k5=>?_,fun k5=>?_⟩
  ·have k5:=of_decide_eq_true k5
   subst k5
   rw [deed5,if_neg (by omega)]
   exact ⟨by omega,by omega,by first | exact trivial | rfl,by first | exact trivial | rfl,by omega,by omega,by first | exact trivial | rfl,by first | exact trivial | rfl,by first | exact trivial | rfl,by first | exact trivial | rfl,by first | exact trivial | rfl,trivial⟩
  ·have k6:k=6:=by
    have:=of_decide_eq_false k5
    omega
   subst k6
   rw [deed6]
   unfold putF
   rw [if_neg (by omega)]
   exact ⟨by omega,by omega,by omega,by first | exact trivial | rfl,by first | exact trivial | rfl,by first | exact trivial | rfl,trivial⟩
 ·have k7:=of_decide_eq_true k7
  subst k7
  obtain ⟨a0,a1,a2,ex,eh⟩:=hi1 rfl
  subst ex
  have O:ObjAt s (rootAt s a):=R.obj (R.rootNam a0 a1 a2)
  have e0:=obj0 h0 a0 a1 a2
  have:=O.x0
  have:=O.r0
  have:=O.b0
  have:=O.fit
  obtain ⟨_,p1,p2,p3,p4,p5,_⟩:=pins_law R.pin (k:=rootAt s a) (by omega) (by omega)
  have em:(mget s.2.2.1 (rootAt s a)).getD 0=manyP s.2.2.1 (rootAt s a):=rfl
  rw [p1,em,deed7]
  unfold pinF
  rw [if_neg (by omega)]
  refine ⟨trivial,fun q=>?_,fun q=>?_⟩
  ·have q:manyP s.2.2.1 (rootAt s a)=1000000∨(manyP s.2.2.1 (rootAt s a)=0∧s.2.2.1.length=16):=by
    simp only [Bool.or_eq_true,Bool.and_eq_true,decide_eq_true_eq] at q
    omega
   rw [p4 q,if_pos (by simp)]
   exact fun _=>⟨by first | exact trivial | rfl,by first | exact trivial | rfl,by first | exact trivial | rfl,trivial⟩
  ·have q:¬ (manyP s.2.2.1 (rootAt s a)=1000000∨(manyP s.2.2.1 (rootAt s a)=0∧s.2.2.1.length=16)):=by
    intro q1
    have:(decide (manyP s.2.2.1 (rootAt s a)=1000000)||decide (manyP s.2.2.1 (rootAt s a)=0)&&decide ((s.2.2.1.length:Int)=16))=true:=by
     simp only [Bool.or_eq_true,Bool.and_eq_true,decide_eq_true_eq]
     omega
    rw [this] at q
    cases q
   rw [p5 q,if_neg (by simp),wrapU (by omega) (by omega)]
   simp only [InR]
   exact ⟨by omega,trivial,by first | exact trivial | rfl,by first | exact trivial | rfl,by first | exact trivial | rfl,trivial⟩
 ·have k8:=of_decide_eq_true k8
  subst k8
  rw [deed8]
  unfold unpinF
  rw [if_neg (by omega)]
  refine ⟨trivial,fun q=>?_,fun q=>?_⟩
  ·have q:a<0∨255<a:=by simpa using q
   have hF:findP s.2.2.1 a=(0,false,4):=by
    unfold findP
    rw [if_neg (by have:=R.pin; omega),if_pos (by simp; omega)]
   have hd4:dropP s.2.2.1 a=([],0,4):=by
    unfold dropP
    rw [if_pos (by rw [hF]; simp),hF]
   rw [hd4,if_pos (by simp)]
   exact fun _=>⟨by first | exact trivial | rfl,by first | exact trivial | rfl,by first | exact trivial | rfl,trivial⟩
  have q:¬ (a<0∨255<a):=by simpa using q
  obtain ⟨_,p1,p2,p3,_,_,p6,p7⟩:=pins_law R.pin (k:=a) (by omega) (by omega)
  have em:(mget s.2.2.1 a).getD 0=manyP s.2.2.1 a:=rfl
  rw [p1,em]
  refine ⟨fun q1=>?_,fun q1=>?_⟩
  ·rw [p6 (of_decide_eq_true q1),if_pos (by simp)]
   exact fun _=>⟨by first | exact trivial | rfl,by first | exact trivial | rfl,by first | exact trivial | rfl,trivial⟩
  ·rw [p7 (of_decide_eq_false q1),if_neg (by simp)]
   simp only [InR]
   exact ⟨by omega,trivial,by first | exact trivial | rfl,by first | exact trivial | rfl,by first | exact trivial | rfl,trivial⟩
 ·have k9:=of_decide_eq_true k9
  subst k9
  have p1:putAll [] s.2.2.1=s.2.2.1:=putAll_self (pins_ok R.pin).2.1
  have em:(mget s.2.2.1 a).getD 0=manyP s.2.2.1 a:=rfl
  have eh:(headAtL a (spotsF s.1).1).1=hdA s.1 a:=rfl
  have hP:peekErr s a b=if storeF s≠0 then storeF s else if inL (pinsOf s) a=false then 8 else if b<0∨(hdA s.1 a).2.1≤b then 4 else 0:=rfl
  rw [if_neg (by omega)] at hP
  rw [p1,em,eh,deed9]
  refine ⟨trivial,fun q=>?_,fun q=>⟨trivial,fun q1=>?_,fun q1=>?_⟩⟩
  ·rw [if_pos (pin_in R |>.2 (of_decide_eq_true q))] at hP
   rw [hP,if_pos (by omega)]
   exact fun _=>⟨by first | exact trivial | rfl,by first | exact trivial | rfl,by first | exact trivial | rfl,trivial⟩
  all_goals have hin:¬ inL (pinsOf s) a=false:=fun hx=>of_decide_eq_false q (pin_in R |>.1 hx)
  all_goals rw [if_neg hin] at hP
  ·have q1:b<0∨(hdA s.1 a).2.1≤b:=by simpa using q1
   rw [if_pos q1] at hP
   rw [hP,if_pos (by omega)]
   exact fun _=>⟨by first | exact trivial | rfl,by first | exact trivial | rfl,by first | exact trivial | rfl,trivial⟩
  ·have q1:¬ (b<0∨(hdA s.1 a).2.1≤b):=by simpa using q1
   rw [if_neg q1] at hP
   have O:ObjAt s a:=R.obj (R.pinsIn a (inL_iff.1 (by simpa using hin)))
   have:=O.x0
   have:=O.r0
   have:=O.fit
   rw [hP,if_neg (by omega)]
   simp only [InR]
   exact ⟨by omega,by omega,by omega,by omega,by omega,by first | exact trivial | rfl,by first | exact trivial | rfl,by omega,by first | exact trivial | rfl,by first | exact trivial | rfl,by omega,by first | exact trivial | rfl,by first | exact trivial | rfl,by omega,by first | exact trivial | rfl,by omega,by omega,by first | exact trivial | rfl,by first | exact trivial | rfl,by first | exact trivial | rfl,by first | exact trivial | rfl,by first | exact trivial | rfl,trivial⟩
 ·have k10:=of_decide_eq_true k10
  subst k10
  obtain ⟨a0,a1,a2,ex,eh⟩:=hi1 rfl
  subst ex
  have O:ObjAt s (rootAt s a):=R.obj (R.rootNam a0 a1 a2)
  have e0:=obj0 h0 a0 a1 a2
  have:=O.x0
  have:=O.r0
  have:=O.b0
  have:=O.fit
  have hO:=open_two (rootAt s a) R.hand
  rw [if_neg (by omega)] at hO
  rw [deed10]
  unfold openT
  rw [if_neg (by omega)]
  have hhd:=(handsF_zero R.hand).2
  refine ⟨⟨by omega,by omega,by first | exact trivial | rfl,by first | exact trivial | rfl⟩,fun ⟨i,bx,st2⟩ ⟨i0,i1,i2,i3⟩=>⟨fun hlt=>?_,fun hge=>?_⟩⟩
  ·simp only at i0 i1 i2 i3 hlt ⊢
   subst i2
   have hlt:=of_decide_eq_true hlt
   have hm:=hhd _ (getD_mem ((0,false,0):Slot) i0 hlt)
   have hil:i.toNat<bx.2.2.2.length:=by omega
   have hgs:∀ y:Slot,(bx.2.2.2.set i.toNat y).getD i.toNat (0,false,0)=y:=fun y=>by simp [hil]
   rw [drop_cons ((0,false,0):Slot) i0 hlt] at i3
   simp only [findFrom] at i3
   simp only [hgs,List.length_set,InR]
   refine ⟨i0,hlt,fun q=>?_,fun q=>?_⟩
   ·have q':freeSlot (bx.2.2.2.getD i.toNat (0,false,0))=true:=q
    rw [if_pos q'] at i3
    rw [← i3,if_neg (by omega)] at hO
    simp only [Bool.and_eq_true,decide_eq_true_eq] at q
    rw [hO,if_neg (by simp)]
    exact ⟨by omega,i0,by omega,by omega,i0,by omega,by omega,⟨i0,by omega,by omega,by omega⟩,rfl,rfl,rfl,trivial⟩
   ·have q':freeSlot (bx.2.2.2.getD i.toNat (0,false,0))=false:=q
    rw [if_neg (by rw [q']; simp)] at i3
    exact ⟨by omega,⟨by omega,by omega,by first | exact trivial | rfl,i3⟩,by omega⟩
  ·simp only at i0 i1 i2 i3 hge ⊢
   rw [drop_end (of_decide_eq_false hge)] at i3
   simp only [findFrom] at i3
   rw [if_pos (by omega)] at hO
   rw [hO,if_pos (by simp)]
   exact fun _=>⟨by first | exact trivial | rfl,by first | exact trivial | rfl,by first | exact trivial | rfl,trivial⟩
 ·have hk:k=11∨k=12:=by
   rw [e5] at k11
   simpa using k11
  have hsl:k=11→slotErr s a=0:=fun h11=>by
   obtain ⟨a0,a1⟩:=hi2 (by subst h11; rfl)
   exact slot0 h0 a0 a1
  have hsr:k=11→0≤a∧a<s.2.1.length:=fun h11=>hi2 (by subst h11; rfl)
  rcases handOf_find (n:=v) R.hand with ⟨f1,f2,f3,f4⟩ | ⟨f1,f2⟩
  ·rw [f2]
   refine ⟨R.hand,fun q=>?_,fun q=>⟨fun h11=>?_,fun h11=>?_⟩⟩
   ·have:=of_decide_eq_true q
    omega
   ·have h11:=of_decide_eq_true h11
    have hL:lookF s.2.2.2 v=((s.2.2.2.getD (findF s.2.2.2 v).1.toNat (0,false,0)).2.2,0):=by
     unfold lookF
     rw [if_neg (by omega)]
    have h1:=hsl h11
    have h2:=hsr h11
    subst h11
    rw [deed11]
    unfold useF
    rw [if_neg (by omega),hL,if_neg (by simp)]
    exact ⟨f3,f4,h2.1,h2.2,by omega,by first | exact trivial | rfl,by first | exact trivial | rfl,by first | exact trivial | rfl,trivial⟩
   ·have h12:k=12:=by
     have:=of_decide_eq_false h11
     omega
    have hL:closeF s.2.2.2 v=(s.2.2.2.set (findF s.2.2.2 v).1.toNat ((s.2.2.2.getD (findF s.2.2.2 v).1.toNat (0,false,0)).1,false,0),0):=by
     unfold closeF
     rw [if_neg (by omega)]
    subst h12
    rw [deed12]
    unfold shutF
    rw [if_neg (by omega),hL,if_neg (by simp)]
    exact ⟨f3,f4,f3,f4,by omega,by first | exact trivial | rfl,by first | exact trivial | rfl,by first | exact trivial | rfl,trivial⟩
  ·rw [f2]
   refine ⟨R.hand,fun _=>?_,fun q=>?_⟩
   ·rcases hk with h11 | h12
    ·have hL:lookF s.2.2.2 v=(0,9):=by
      unfold lookF
      rw [f1]
      rfl
     have h1:=hsl h11
     subst h11
     rw [deed11]
     unfold useF
     rw [if_neg (by omega),hL,if_pos (by simp)]
     exact fun _=>⟨by first | exact trivial | rfl,by first | exact trivial | rfl,by first | exact trivial | rfl,trivial⟩
    ·have hL:closeF s.2.2.2 v=([],9):=by
      unfold closeF
      rw [f1]
      rfl
     subst h12
     rw [deed12]
     unfold shutF
     rw [if_neg (by omega),hL,if_pos (by simp)]
     exact fun _=>⟨by first | exact trivial | rfl,by first | exact trivial | rfl,by first | exact trivial | rfl,trivial⟩
   ·simp at q
 ·have h3:¬ k=3∧¬ k=4:=by
   rw [e3] at k34
   simpa using k34
  have h5:¬ k=5∧¬ k=6:=by
   rw [e4] at k56
   simpa using k56
  have h11:¬ k=11∧¬ k=12:=by
   rw [e5] at k11
   simpa using k11
  have k1:=of_decide_eq_false k1
  have k2:=of_decide_eq_false k2
  have k7:=of_decide_eq_false k7
  have k8:=of_decide_eq_false k8
  have k9:=of_decide_eq_false k9
  have k10:=of_decide_eq_false k10
  have hk:k=13:=by omega
  subst hk
  obtain ⟨a0,a1⟩:=hi2 rfl
  have hS:=slot0 h0 a0 a1
  rw [deed13]
  unfold dropT
  rw [if_neg (by omega)]
  exact ⟨a0,a1,by omega,by first | exact trivial | rfl,by first | exact trivial | rfl,by first | exact trivial | rfl,trivial⟩
theorem e_rDone:pv_rDone=(fnVC Tryz.prog (tbl [(86,sp_refClone),(10,sp_rStoreFault),(41,sp_rHeadAt),(20,sp_rHeadFault),(61,sp_rPlaced),(15,sp_rSwept),(62,sp_rFreeWords),(45,sp_rNamed),(63,sp_rWritten),(64,sp_pinned),(65,sp_pinList),(67,sp_handOf),(66,sp_rHandName)]) an_rDone Tryz.f18 sp_rDone):=by kernel_rfl
theorem vc_rDone:fnVC Tryz.prog (tbl [(86,sp_refClone),(10,sp_rStoreFault),(41,sp_rHeadAt),(20,sp_rHeadFault),(61,sp_rPlaced),(15,sp_rSwept),(62,sp_rFreeWords),(45,sp_rNamed),(63,sp_rWritten),(64,sp_pinned),(65,sp_pinList),(67,sp_handOf),(66,sp_rHandName)]) an_rDone Tryz.f18 sp_rDone:=@Eq.mp _ _ @e_rDone @vcp_rDone
theorem ok_rDone:sp_rDone.ok Tryz.prog 18:=fn_sound (P:=Tryz.prog) (ss:=tbl [(86,sp_refClone),(10,sp_rStoreFault),(41,sp_rHeadAt),(20,sp_rHeadFault),(61,sp_rPlaced),(15,sp_rSwept),(62,sp_rFreeWords),(45,sp_rNamed),(63,sp_rWritten),(64,sp_pinned),(65,sp_pinList),(67,sp_handOf),(66,sp_rHandName)]) (ann:=an_rDone) (f:=18) (fn:=Tryz.f18) (s:=sp_rDone) (tbl_cons ok_refClone (tbl_cons ok_rStoreFault (tbl_cons ok_rHeadAt (tbl_cons ok_rHeadFault (tbl_cons ok_rPlaced (tbl_cons ok_rSwept (tbl_cons ok_rFreeWords (tbl_cons ok_rNamed (tbl_cons ok_rWritten (tbl_cons ok_pinned (tbl_cons ok_pinList (tbl_cons ok_handOf (tbl_cons ok_rHandName tbl_nil))))))))))))) Tryz.func18 @vc_rDone
end Go.Proofs.YtglchojglcobjaaGreat
