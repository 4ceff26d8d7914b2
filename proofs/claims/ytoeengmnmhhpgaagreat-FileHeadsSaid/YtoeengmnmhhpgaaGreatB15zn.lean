/- Plain laws of the functions w8 this seat's, laid anew from another seat's text. No conditions but those that the theorems name. -/
import Derived.Test.YtoeengmnmhhpgaaGreatP15zxD
import Derived.Test.YtoeengmnmhhpgaaGreatB15za
import Derived.Test.YtoeengmnmhhpgaaGreatB15zb
import Derived.Test.YtoeengmnmhhpgaaGreatB15zc
import Derived.Test.YtoeengmnmhhpgaaGreatB15zd
import Derived.Test.YtoeengmnmhhpgaaGreatB15zt
import Derived.Test.YtoeengmnmhhpgaaGreatB15zm
namespace Go.Ab
open Go
set_option linter.unusedVariables false
/-- The end of a thread in packets. -/
def RN (k:Int) (a:Int×Int) (p:yE):Int×Int:=if p.Thread=k then (p.Serial+p.Events.length,QQ p.Events) else a
def JJ (l:List yE) (k:Int):Int×Int:=l.foldl (RN k) (0,0)
def evN (l:List yE):Nat:=(l.map fun p=>p.Events.length).sum
def WJ (l:List yE):Prop:=∀ p∈l,aK p=0
def T1 (l:List yE) (p:yE):Bool:=decide (p.Serial=(JJ l p.Thread).1+p.Lost)&&decide (MV p.Events≥(JJ l p.Thread).2)

def OJ (h:z6):List Int:=h.Threads.map (·.Id)
end Go.Ab
