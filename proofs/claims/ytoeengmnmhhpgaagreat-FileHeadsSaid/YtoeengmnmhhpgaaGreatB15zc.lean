/- Plain laws of the functions w8 this seat's, laid anew from another seat's text. No conditions but those that the theorems name. -/
import Derived.Test.YtoeengmnmhhpgaaGreatP15zxD
import Derived.Test.YtoeengmnmhhpgaaGreatB15za
import Derived.Test.YtoeengmnmhhpgaaGreatB15zb
namespace Go.Ab
open Go
set_option linter.unusedVariables false
def nO (k:Int):Bool:=(k==1)||((k==3)||(k==4))
def GQ (k:Int):Bool:=decide (k≥4)
def AK (k:Int):Bool:=(k==9)||(k==11)
def cQ (k:Int):Bool:=(k==5)||(k==11)
def kH (n lo hi:Int):Int:=if n<lo∨n>hi then 2 else 0
def VQ (e:xF):Int :=
  if e.Kind=1∨e.Kind=2∨e.Kind=3 then 0 else if e.Kind=4 then kH e.N (-1000000000000000) 1000000000000000 else if e.Kind=5 then kH e.N 1 1000000000000 else
  if e.Kind=8 then kH e.N 0 63 else
  if e.Kind=9 then (if kH e.N 0 3=0∧e.N=2 then kH e.M 0 1000000000000000 else if kH e.N 0 3=0∧e.M≠0 then 1 else kH e.N 0 3) else
  if kH e.N 0 1000000000000000=0∧e.Kind=11 then kH e.M 1 1000000000000 else kH e.N 0 1000000000000000
/-- Fields that the kind does not use are empty. -/
def NV (e:xF):Bool :=
  (!nO e.Kind&&!(e.Name==[]))||((!GQ e.Kind&&(e.N != 0))||((!AK e.Kind&&(e.M != 0))||(!cQ e.Kind&&decide (0<e.Stack.length))))
def K5 (e:xF):Int:=if nO e.Kind then qY e.Name else if cQ e.Kind then AN e.Stack else 0
def evS (e:xF):Int :=
  if e.At<0∨e.At>1000000000000 then 2 else if e.Kind<1∨e.Kind>12 then 1 else if NV e then 1 else if K5 e≠0 then K5 e else VQ e
end Go.Ab
