/- Plain laws of the functions wU this seat's, laid anew from another seat's text. No conditions but those that the theorems name. -/
import Derived.Test.YtoeengmnmhhpgaaP15xD
import Derived.Test.YtoeengmnmhhpgaaR15
import Derived.Test.YtoeengmnmhhpgaaB15a
import Derived.Test.YtoeengmnmhhpgaaB15b
import Derived.Test.YtoeengmnmhhpgaaB15c
import Derived.Test.YtoeengmnmhhpgaaB15d
import Derived.Test.YtoeengmnmhhpgaaB15e
import Derived.Test.YtoeengmnmhhpgaaB15f
import Derived.Test.YtoeengmnmhhpgaaB15g
import Derived.Test.YtoeengmnmhhpgaaB15h
import Derived.Test.YtoeengmnmhhpgaaB15i
import Derived.Test.YtoeengmnmhhpgaaB15j
import Derived.Test.YtoeengmnmhhpgaaB15k
import Derived.Test.YtoeengmnmhhpgaaB15t
import Derived.Test.YtoeengmnmhhpgaaB15m
import Derived.Test.YtoeengmnmhhpgaaB15n
import Derived.Test.YtoeengmnmhhpgaaB15o
import Derived.Test.YtoeengmnmhhpgaaC15a
import Derived.Test.YtoeengmnmhhpgaaC15b
import Derived.Test.YtoeengmnmhhpgaaC15c
import Derived.Test.YtoeengmnmhhpgaaC15d
import Derived.Test.YtoeengmnmhhpgaaC15e
import Derived.Test.YtoeengmnmhhpgaaC15f
import Derived.Test.YtoeengmnmhhpgaaC15g
import Derived.Test.YtoeengmnmhhpgaaC15h
import Derived.Test.YtoeengmnmhhpgaaC15i
import Derived.Test.YtoeengmnmhhpgaaC15j
import Derived.Test.YtoeengmnmhhpgaaC15k
import Derived.Test.YtoeengmnmhhpgaaC15l
import Derived.Test.YtoeengmnmhhpgaaC15m
namespace Go.Ab
open Go
set_option linter.unusedVariables false
abbrev Fl:=List yQ×List zQ
def wC (l:List Fl):List Int:=l.flatMap fun g=>(flC g.1 g.2).flatten
def qW (l:List Fl):List yQ:=l.flatMap (·.1)
def v9 (l:List Fl):List zQ:=l.flatMap (·.2)
def okF (h:zT):List yQ→List zQ→List Fl→Prop
 | _,_,[]=>True
 | S,P,g::r=>(∀ x∈g.1,j9 x)∧(∀ p∈g.2,p.Events.length≤60)∧uZ h.Domains (S++g.1)=0∧apS h P g.2=.inl (P++g.2)∧evN (P++g.2)≤20000∧g.1.length+g.2.length≠0∧okF h (S++g.1) (P++g.2) r
theorem TS {h:zT}:∀ (l:List Fl) (S:List yQ) (P:List zQ) (z:Int) (r:List Int),okF h S P l→wI (wC l++r) →
  run h ⟨S,P,z,S,P,z,0⟩ (wC l++r)=run h ⟨S++qW l,P++v9 l,z+(wC l).length,S++qW l,P++v9 l,z+(wC l).length,0⟩ r
 | [],S,P,z,r,_,_=>by simp [wC,qW,v9]
 | g::l,S,P,z,r,ho,hb=>by
  obtain ⟨h1,h2,h3,h4,h5,h6,h7⟩:=ho
  have e:wC (g::l)++r=(flC g.1 g.2).flatten++(wC l++r):=by simp [wC]
  have el:(wC (g::l)).length=(flC g.1 g.2).flatten.length+(wC l).length:=by
   show ((flC g.1 g.2).flatten++wC l).length=_
   rw [zla]
  have es:S++qW (g::l)=S++g.1++qW l:=by simp [qW]
  have ep:P++v9 (g::l)=P++g.2++v9 l:=by simp [v9]
  rw [e] at hb ⊢
  rw [el,es,ep,TB hb h1 h3 h2 h4 h5 h6,TS l _ _ _ r h7 (cC hb)]
  rw [show z+((flC g.1 g.2).flatten.length:Int)+((wC l).length:Int)=z+(((flC g.1 g.2).flatten.length+(wC l).length:Nat):Int) by omega]
end Go.Ab
