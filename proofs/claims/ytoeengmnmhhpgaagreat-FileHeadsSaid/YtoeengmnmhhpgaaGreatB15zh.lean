/- Plain laws of the functions w8 this seat's, laid anew from another seat's text. No conditions but those that the theorems name. -/
import Derived.Test.YtoeengmnmhhpgaaGreatP15zxD
import Derived.Test.YtoeengmnmhhpgaaGreatB15za
import Derived.Test.YtoeengmnmhhpgaaGreatB15zb
import Derived.Test.YtoeengmnmhhpgaaGreatB15zc
import Derived.Test.YtoeengmnmhhpgaaGreatB15zd
import Derived.Test.YtoeengmnmhhpgaaGreatB15ze
import Derived.Test.YtoeengmnmhhpgaaGreatB15zf
import Derived.Test.YtoeengmnmhhpgaaGreatB15zg
namespace Go.Ab
open Go
set_option linter.unusedVariables false
/-- Events and their integers, in order. -/
def fN (n:List (List Int)) (s:List zX):List xF→List (List Int)→Prop
  | [],[]=>True
  | e::r,L::q=>lC n s e L∧fN n s r q
  | _,_=>False
theorem fN.mono {n n':List (List Int)} {s s':List zX} (hn:n <+: n') (hs:s <+: s'):∀ {l:List xF} {q:List (List Int)},fN n s l q→fN n' s' l q
  | [],[],h=>trivial
  | _::_,_::_,h=>⟨h.1.mono hn hs,fN.mono hn hs h.2⟩
def KH:List (List Int)→List zX→List Int→List xF→((List (List Int))×(List zX)×(List Int))⊕Int
  | n,s,row,[]=>.inl (n,s,row)
  | n,s,row,e::r=>if (gP n s e).2.2.2≠0 then .inr (gP n s e).2.2.2 else KH (gP n s e).2.1 (gP n s e).2.2.1 (row++(gP n s e).1) r
def Q5 (x:List Int):List Int:=tT 9 (tU x.length)++x
def UO (n:List (List Int)):List Int:=n.flatMap Q5
def XH (s:List zX):List Int:=s.flatMap fun p=>d8 [p.c0,p.c1]
def N2 (p:yE) (n:List (List Int)) (s:List zX):List Int:=d8 [p.Thread,p.Serial,p.Lost,(n.length:Int)]++UO n++d8 [(s.length:Int)]++XH s++d8 [(p.Events.length:Int)]
def JH (p:yE):List Int×Int :=
  if aK p≠0 then ([],aK p) else match KH [] [] [] p.Events with
  | .inr e=>([],e)
  | .inl q=>(N2 p q.1 q.2.1++q.2.2,0)
end Go.Ab
