/- Plain laws of the functions w6 this seat's, laid anew from another seat's text. No conditions but those that the theorems name. -/
import Derived.Test.YtoeengmnmhhpgaaP15xD
import Derived.Test.YtoeengmnmhhpgaaR15
import Derived.Test.YtoeengmnmhhpgaaB15a
import Derived.Test.YtoeengmnmhhpgaaB15b
import Derived.Test.YtoeengmnmhhpgaaB15c
import Derived.Test.YtoeengmnmhhpgaaB15d
import Derived.Test.YtoeengmnmhhpgaaB15e
import Derived.Test.YtoeengmnmhhpgaaB15f
import Derived.Test.YtoeengmnmhhpgaaB15g
import Derived.Test.YtoeengmnmhhpgaaB15h
import Derived.Test.YtoeengmnmhhpgaaB15i
import Derived.Test.YtoeengmnmhhpgaaB15j
import Derived.Test.YtoeengmnmhhpgaaB15k
import Derived.Test.YtoeengmnmhhpgaaB15t
import Derived.Test.YtoeengmnmhhpgaaB15m
import Derived.Test.YtoeengmnmhhpgaaB15n
import Derived.Test.YtoeengmnmhhpgaaB15o
import Derived.Test.YtoeengmnmhhpgaaC15a
import Derived.Test.YtoeengmnmhhpgaaC15b
import Derived.Test.YtoeengmnmhhpgaaC15c
import Derived.Test.YtoeengmnmhhpgaaC15d
import Derived.Test.YtoeengmnmhhpgaaC15e
import Derived.Test.YtoeengmnmhhpgaaC15f
import Derived.Test.YtoeengmnmhhpgaaC15g
import Derived.Test.YtoeengmnmhhpgaaC15h
import Derived.Test.YtoeengmnmhhpgaaC15i
import Derived.Test.YtoeengmnmhhpgaaC15j
import Derived.Test.YtoeengmnmhhpgaaC15k
import Derived.Test.YtoeengmnmhhpgaaC15l
import Derived.Test.YtoeengmnmhhpgaaC15m
namespace Go.Ab
open Go
set_option linter.unusedVariables false
abbrev Fl:=List yP×List zQ
def wR (l:List Fl):List Int:=l.flatMap fun g=>(flC g.1 g.2).flatten
def uP (l:List Fl):List yP:=l.flatMap (·.1)
def vR (l:List Fl):List zQ:=l.flatMap (·.2)
def okF (h:zU):List yP→List zQ→List Fl→Prop
 | _,_,[]=>True
 | S,P,g::r=>(∀ x∈g.1,kF x)∧(∀ p∈g.2,p.Events.length≤60)∧tJ h.Domains (S++g.1)=0∧apS h P g.2=.inl (P++g.2)∧evN (P++g.2)≤20000∧g.1.length+g.2.length≠0∧okF h (S++g.1) (P++g.2) r
theorem UX {h:zU}:∀ (l:List Fl) (S:List yP) (P:List zQ) (z:Int) (r:List Int),okF h S P l→wM (wR l++r) →
  run h ⟨S,P,z,S,P,z,0⟩ (wR l++r)=run h ⟨S++uP l,P++vR l,z+(wR l).length,S++uP l,P++vR l,z+(wR l).length,0⟩ r
 | [],S,P,z,r,_,_=>by simp [wR,uP,vR]
 | g::l,S,P,z,r,ho,hb=>by
  obtain ⟨h1,h2,h3,h4,h5,h6,h7⟩:=ho
  have e:wR (g::l)++r=(flC g.1 g.2).flatten++(wR l++r):=by simp [wR]
  have el:(wR (g::l)).length=(flC g.1 g.2).flatten.length+(wR l).length:=by
   show ((flC g.1 g.2).flatten++wR l).length=_
   rw [zla]
  have es:S++uP (g::l)=S++g.1++uP l:=by simp [uP]
  have ep:P++vR (g::l)=P++g.2++vR l:=by simp [vR]
  rw [e] at hb ⊢
  rw [el,es,ep,SU hb h1 h3 h2 h4 h5 h6,UX l _ _ _ r h7 (bX hb)]
  rw [show z+((flC g.1 g.2).flatten.length:Int)+((wR l).length:Int)=z+(((flC g.1 g.2).flatten.length+(wR l).length:Nat):Int) by omega]
end Go.Ab
