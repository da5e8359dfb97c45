
import Derived.Test.YtglchojglcobjaaGreatSlices
namespace Go.Proofs.YtglchojglcobjaaGreat
open Go
set_option maxRecDepth 100000
set_option maxHeartbeats 1000000
def fitsFrom (n:Int):Int→List (Int×Int)→List Int
 | _,[]=>[]
 | k,r::l=>if n≤r.2 then k::fitsFrom n (k+1) l else fitsFrom n (k+1) l
def fitsBad (l:List (Int×Int)):Bool:=l.any fun r=>decide (r.1<0)||decide (r.2<1)
def fitsF (l:List (Int×Int)) (n:Int):List Int×Int:=if n<1 then ([],1) else if fitsBad l then ([],4) else if fitsFrom n 0 l=[] then ([],7) else (fitsFrom n 0 l,0)
def firstF (l:List (Int×Int)) (n:Int):Int×Int:=if (fitsF l n).2≠0 then (0,(fitsF l n).2) else ((fitsF l n).1.getD 0 0,0)
end Go.Proofs.YtglchojglcobjaaGreat
