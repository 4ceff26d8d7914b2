/- Plain laws of the functions w8 this seat's, laid anew from another seat's text. No conditions but those that the theorems name. -/
import Derived.Test.YtoeengmnmhhpgaaGreatP15zxD
import Derived.Test.YtoeengmnmhhpgaaGreatB15za
import Derived.Test.YtoeengmnmhhpgaaGreatB15zb
import Derived.Test.YtoeengmnmhhpgaaGreatB15zc
import Derived.Test.YtoeengmnmhhpgaaGreatB15zd
import Derived.Test.YtoeengmnmhhpgaaGreatB15ze
import Derived.Test.YtoeengmnmhhpgaaGreatB15zf
import Derived.Test.YtoeengmnmhhpgaaGreatB15zg
import Derived.Test.YtoeengmnmhhpgaaGreatB15zh
namespace Go.Ab
open Go
set_option linter.unusedVariables false
def AF (b:List Int) (u f most:Int):Int×Int×Int :=
  if (tO b u f).2.2≠0 then (0,(tO b u f).2.1,(tO b u f).2.2) else if (tO b u f).1<0 then (0,(tO b u f).2.1,10) else if (tO b u f).1>most then (0,(tO b u f).2.1,7) else tO b u f
def CZ (b:List Int) (u f:Int):List Int×Int×Int:=if f≠0 then ([],u,f) else ((txt (b.drop u.toNat) 40).1,u+(txt (b.drop u.toNat) 40).2.1,(txt (b.drop u.toNat) 40).2.2)
def K0 (b:List Int):Nat→Int→Int→List (List Int)→Int×Int×List (List Int)
  | 0,u,f,row=>(u,f,row)
  | k+1,u,f,row=>if f≠0 then (u,f,row) else K0 b k (CZ b u f).2.1 (CZ b u f).2.2 (row++[(CZ b u f).1])
def two (b:List Int) (u f:Int):Int×Int×Int:=tO b (tO b u f).2.1 (tO b u f).2.2
def LZ (b:List Int):Nat→Int→Int→List zX→Int×Int×List zX
  | 0,u,f,row=>(u,f,row)
  | k+1,u,f,row=>if f≠0 then (u,f,row) else LZ b k (two b u f).2.1 (two b u f).2.2 (row++[⟨(tO b u f).1,(two b u f).1⟩])
def G4 (n:List (List Int)) (s:List zX) (b:List Int):Nat→Int→Int→List xF→Int×Int×List xF
  | 0,u,f,row=>(u,f,row)
  | k+1,u,f,row=>if f≠0 then (u,f,row) else G4 n s b k (u+(BB n s (b.drop u.toNat)).2.1) (BB n s (b.drop u.toNat)).2.2 (row++[(BB n s (b.drop u.toNat)).1])
def dT (b:List Int):=tO b 0 0
def dS (b:List Int):=tO b (dT b).2.1 (dT b).2.2
def dL (b:List Int):=tO b (dS b).2.1 (dS b).2.2
def dC1 (b:List Int):=AF b (dL b).2.1 (dL b).2.2 1000
def dN (b:List Int):=K0 b (dC1 b).1.toNat (dC1 b).2.1 (dC1 b).2.2 []
def dC2 (b:List Int):=AF b (dN b).1 (dN b).2.1 1000
def dSt (b:List Int):=LZ b (dC2 b).1.toNat (dC2 b).2.1 (dC2 b).2.2 []
def dF3 (b:List Int):Int:=if (dSt b).2.1=0 then mX (dN b).2.2 (dSt b).2.2 else (dSt b).2.1
def dC3 (b:List Int):=AF b (dSt b).1 (dF3 b) 1000
def dE (b:List Int):=G4 (dN b).2.2 (dSt b).2.2 b (dC3 b).1.toNat (dC3 b).2.1 (dC3 b).2.2 []
def dP (b:List Int):yE:=⟨(dT b).1,(dS b).1,(dL b).1,(dE b).2.2⟩
def dF5 (b:List Int):Int:=if (dE b).2.1=0 then aK (dP b) else (dE b).2.1
def b9 (b:List Int):yE×Int×Int :=
  if dF5 b≠0 then (pk0,0,dF5 b) else if (JH (dP b)).2≠0∨(JH (dP b)).1≠b.take (dE b).1.toNat then (pk0,0,10) else (dP b,(dE b).1,0)
end Go.Ab
