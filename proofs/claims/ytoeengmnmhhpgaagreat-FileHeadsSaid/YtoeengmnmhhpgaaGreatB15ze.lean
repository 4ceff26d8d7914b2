/- Plain laws of the functions w8 this seat's, laid anew from another seat's text. No conditions but those that the theorems name. -/
import Derived.Test.YtoeengmnmhhpgaaGreatP15zxD
import Derived.Test.YtoeengmnmhhpgaaGreatB15za
import Derived.Test.YtoeengmnmhhpgaaGreatB15zb
import Derived.Test.YtoeengmnmhhpgaaGreatB15zc
import Derived.Test.YtoeengmnmhhpgaaGreatB15zd
namespace Go.Ab
open Go
set_option linter.unusedVariables false
/-- The text at the beginning. -/
def txt (b:List Int) (most:Int):List Int×Int×Int :=
  let r:=vrd b 0 0
  if r.2.2≠0 then ([],0,r.2.2) else if r.1<0 then ([],0,10) else if r.1>most then ([],0,7) else if r.1>b.length - r.2.1 then ([],0,8) else
  (sub b r.2.1 (r.2.1+r.1),r.2.1+r.1,0)

/-- The bytes of integers, one after the other. -/
def d8 (l:List Int):List Int:=l.flatMap fun n=>tT 9 (tU n)
def HN (names:Int) (e:xF) (st:Int):List Int :=
  [e.Kind,e.At]++(if nO e.Kind then [names] else [])++(if GQ e.Kind then [e.N] else [])++(if AK e.Kind then [e.M] else [])++(if cQ e.Kind then [st] else [])
def nR (names:List (List Int)) (e:xF):Int×List (List Int)×Int:=if nO e.Kind then kI names e.Name else (0,names,0)
def gY (names:List (List Int)) (stacks:List zX) (e:xF):Int×List (List Int)×List zX×Int:=if cQ e.Kind then V3 names stacks e.Stack else (0,names,stacks,0)
def gP (names:List (List Int)) (stacks:List zX) (e:xF):List Int×List (List Int)×List zX×Int :=
  if mX names stacks≠0 then ([],[],[],1) else if evS e≠0 then ([],[],[],evS e) else
  if (nR names e).2.2≠0 then ([],[],[],(nR names e).2.2) else
  if (gY (nR names e).2.1 stacks e).2.2.2≠0 then ([],[],[],(gY (nR names e).2.1 stacks e).2.2.2) else
  (d8 (HN (nR names e).1 e (gY (nR names e).2.1 stacks e).1),(gY (nR names e).2.1 stacks e).2.1,(gY (nR names e).2.1 stacks e).2.2.1,0)
end Go.Ab
