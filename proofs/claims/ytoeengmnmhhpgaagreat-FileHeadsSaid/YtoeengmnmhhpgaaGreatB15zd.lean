/- Plain laws of the functions w8 this seat's, laid anew from another seat's text. No conditions but those that the theorems name. -/
import Derived.Test.YtoeengmnmhhpgaaGreatP15zxD
import Derived.Test.YtoeengmnmhhpgaaGreatB15za
import Derived.Test.YtoeengmnmhhpgaaGreatB15zb
import Derived.Test.YtoeengmnmhhpgaaGreatB15zc
namespace Go.Ab
open Go
set_option linter.unusedVariables false
def JD:Option Int→List xF→Int
  | _,[]=>0
  | p,e::r=>if evS e≠0 then evS e else bif p.any (fun a=>decide (e.At<a)) then 11 else JD (some e.At) r
def lG (n:Int):Prop:=n<0∨n>1000000000000000
instance decOutP:DecidablePred lG:=fun n=>inferInstanceAs (Decidable (_∨_))
def H2 (p:yE):Prop:=lG p.Thread∨lG p.Serial∨lG p.Lost∨p.Lost>p.Serial∨p.Serial+p.Events.length>1000000000000000
instance decPackBad:DecidablePred H2:=fun n=>inferInstanceAs (Decidable (_∨_))
def aK (p:yE):Int :=
  if H2 p then 2 else
  if p.Events.length=0 then 8 else if p.Events.length>1000 then 7 else JD none p.Events
def pk0:yE:=⟨0,0,0,[]⟩
def W9 (a b:yE):Prop:=aK a≠0∨aK b≠0∨a.Thread≠b.Thread∨b.Lost≠0∨b.Serial≠a.Serial+a.Events.length
instance decJoinBad {a b:yE}:Decidable (W9 a b):=inferInstanceAs (Decidable (_∨_))
def MV (l:List xF):Int:=(l.head?.map (·.At)).getD 0
def QQ (l:List xF):Int:=(l.getLast?.map (·.At)).getD 0
def QP (p:yE) (n:Int):Prop:=aK p≠0∨n<1∨n≥p.Events.length
instance decSplitBad {p:yE} {n:Int}:Decidable (QP p n):=inferInstanceAs (Decidable (_∨_))
end Go.Ab
