/- Plain laws of the functions wU this seat's, laid anew from another seat's text. No conditions but those that the theorems name. -/
import Derived.Test.YtoeengmnmhhpgaaP15xD
import Derived.Test.YtoeengmnmhhpgaaR15
import Derived.Test.YtoeengmnmhhpgaaB15a
import Derived.Test.YtoeengmnmhhpgaaB15b
import Derived.Test.YtoeengmnmhhpgaaB15c
import Derived.Test.YtoeengmnmhhpgaaB15d
import Derived.Test.YtoeengmnmhhpgaaB15e
import Derived.Test.YtoeengmnmhhpgaaB15f
import Derived.Test.YtoeengmnmhhpgaaB15g
import Derived.Test.YtoeengmnmhhpgaaB15h
import Derived.Test.YtoeengmnmhhpgaaB15i
import Derived.Test.YtoeengmnmhhpgaaB15j
import Derived.Test.YtoeengmnmhhpgaaB15k
import Derived.Test.YtoeengmnmhhpgaaB15t
import Derived.Test.YtoeengmnmhhpgaaB15m
import Derived.Test.YtoeengmnmhhpgaaB15n
import Derived.Test.YtoeengmnmhhpgaaB15o
import Derived.Test.YtoeengmnmhhpgaaC15a
import Derived.Test.YtoeengmnmhhpgaaC15b
import Derived.Test.YtoeengmnmhhpgaaC15c
import Derived.Test.YtoeengmnmhhpgaaC15d
import Derived.Test.YtoeengmnmhhpgaaC15e
import Derived.Test.YtoeengmnmhhpgaaC15f
import Derived.Test.YtoeengmnmhhpgaaC15g
import Derived.Test.YtoeengmnmhhpgaaC15h
import Derived.Test.YtoeengmnmhhpgaaC15i
import Derived.Test.YtoeengmnmhhpgaaC15j
import Derived.Test.YtoeengmnmhhpgaaC15k
import Derived.Test.YtoeengmnmhhpgaaC15l
import Derived.Test.YtoeengmnmhhpgaaC15m
import Derived.Test.YtoeengmnmhhpgaaC15n
import Derived.Test.YtoeengmnmhhpgaaC15o
import Derived.Test.YtoeengmnmhhpgaaC15p
namespace Go.Ab
open Go
set_option linter.unusedVariables false
def jY:List Fl→Nat→Nat
 | [],_=>0
 | g::r,j=>if (flC g.1 g.2).flatten.length≤j then jY r (j - (flC g.1 g.2).flatten.length)+1 else 0
theorem TV {h:zT}:∀ (l:List Fl) (S:List yQ) (P:List zQ) (z:Int) (j:Nat),okF h S P l→wI (wC l) →
  b8 (run h ⟨S,P,z,S,P,z,0⟩ ((wC l).take j))=(S++qW (l.take (jY l j)),P++v9 (l.take (jY l j)),z+(wC (l.take (jY l j))).length)
 | [],S,P,z,j,_,_=>by
  simp only [wC,List.flatMap_nil,List.take_nil]
  rw [EP (b:=[]) rfl]
  simp [b8,qW,v9]
 | g::l,S,P,z,j,ho,hb=>by
  obtain ⟨h1,h2,h3,h4,h5,h6,h7⟩:=ho
  have e:wC (g::l)=(flC g.1 g.2).flatten++wC l:=by simp [wC]
  rw [e] at hb ⊢
  unfold jY
  by_cases hj:(flC g.1 g.2).flatten.length≤j
  ·rw [if_pos hj,List.take_append,List.take_of_length_le hj]
   have hb2:wI ((flC g.1 g.2).flatten++(wC l).take (j - (flC g.1 g.2).flatten.length)):=by
    have:=HR hb j
    rwa [List.take_append,List.take_of_length_le hj] at this
   rw [TB hb2 h1 h3 h2 h4 h5 h6,TV l _ _ _ _ h7 (cC hb)]
   have ef:(wC ((g::l).take (jY l (j - (flC g.1 g.2).flatten.length)+1))).length=(flC g.1 g.2).flatten.length+(wC (l.take (jY l (j - (flC g.1 g.2).flatten.length)))).length:=by
    show ((flC g.1 g.2).flatten++wC _).length=_
    rw [zla]
   rw [ef]
   simp only [List.take_succ_cons,qW,v9,List.flatMap_cons,List.append_assoc,Prod.mk.injEq,true_and]
   omega
  ·rw [if_neg hj,List.take_append_of_le_length (by omega),zAg h2 ⟨fun x hx=>hb.1 x (by simp only [List.mem_append];exact .inl hx),by have:=hb.2;rw [zla] at this;omega⟩ (by omega)]
   simp [b8,qW,v9,wC]
end Go.Ab
