/- Plain laws of the functions w6 this seat's, laid anew from another seat's text. No conditions but those that the theorems name. -/
import Derived.Test.YtoeengmnmhhpgaaP15xD
import Derived.Test.YtoeengmnmhhpgaaR15
import Derived.Test.YtoeengmnmhhpgaaB15a
import Derived.Test.YtoeengmnmhhpgaaB15b
import Derived.Test.YtoeengmnmhhpgaaB15c
import Derived.Test.YtoeengmnmhhpgaaB15d
import Derived.Test.YtoeengmnmhhpgaaB15e
import Derived.Test.YtoeengmnmhhpgaaB15f
import Derived.Test.YtoeengmnmhhpgaaB15g
import Derived.Test.YtoeengmnmhhpgaaB15h
import Derived.Test.YtoeengmnmhhpgaaB15i
import Derived.Test.YtoeengmnmhhpgaaB15j
import Derived.Test.YtoeengmnmhhpgaaB15k
import Derived.Test.YtoeengmnmhhpgaaB15t
import Derived.Test.YtoeengmnmhhpgaaB15m
import Derived.Test.YtoeengmnmhhpgaaB15n
import Derived.Test.YtoeengmnmhhpgaaB15o
import Derived.Test.YtoeengmnmhhpgaaC15a
import Derived.Test.YtoeengmnmhhpgaaC15b
import Derived.Test.YtoeengmnmhhpgaaC15c
import Derived.Test.YtoeengmnmhhpgaaC15d
import Derived.Test.YtoeengmnmhhpgaaC15e
import Derived.Test.YtoeengmnmhhpgaaC15f
import Derived.Test.YtoeengmnmhhpgaaC15g
import Derived.Test.YtoeengmnmhhpgaaC15h
import Derived.Test.YtoeengmnmhhpgaaC15i
import Derived.Test.YtoeengmnmhhpgaaC15j
import Derived.Test.YtoeengmnmhhpgaaC15k
import Derived.Test.YtoeengmnmhhpgaaC15l
import Derived.Test.YtoeengmnmhhpgaaC15m
import Derived.Test.YtoeengmnmhhpgaaC15n
import Derived.Test.YtoeengmnmhhpgaaC15o
import Derived.Test.YtoeengmnmhhpgaaC15p
namespace Go.Ab
open Go
set_option linter.unusedVariables false
def qO:List Fl→Nat→Nat
 | [],_=>0
 | g::r,j=>if (flC g.1 g.2).flatten.length≤j then qO r (j - (flC g.1 g.2).flatten.length)+1 else 0
theorem T4 {h:zU}:∀ (l:List Fl) (S:List yP) (P:List zQ) (z:Int) (j:Nat),okF h S P l→wM (wR l) →
  bH (run h ⟨S,P,z,S,P,z,0⟩ ((wR l).take j))=(S++uP (l.take (qO l j)),P++vR (l.take (qO l j)),z+(wR (l.take (qO l j))).length)
 | [],S,P,z,j,_,_=>by
  simp only [wR,List.flatMap_nil,List.take_nil]
  rw [H8 (b:=[]) rfl]
  simp [bH,uP,vR]
 | g::l,S,P,z,j,ho,hb=>by
  obtain ⟨h1,h2,h3,h4,h5,h6,h7⟩:=ho
  have e:wR (g::l)=(flC g.1 g.2).flatten++wR l:=by simp [wR]
  rw [e] at hb ⊢
  unfold qO
  by_cases hj:(flC g.1 g.2).flatten.length≤j
  ·rw [if_pos hj,List.take_append,List.take_of_length_le hj]
   have hb2:wM ((flC g.1 g.2).flatten++(wR l).take (j - (flC g.1 g.2).flatten.length)):=by
    have:=NG hb j
    rwa [List.take_append,List.take_of_length_le hj] at this
   rw [SU hb2 h1 h3 h2 h4 h5 h6,T4 l _ _ _ _ h7 (bX hb)]
   have ef:(wR ((g::l).take (qO l (j - (flC g.1 g.2).flatten.length)+1))).length=(flC g.1 g.2).flatten.length+(wR (l.take (qO l (j - (flC g.1 g.2).flatten.length)))).length:=by
    show ((flC g.1 g.2).flatten++wR _).length=_
    rw [zla]
   rw [ef]
   simp only [List.take_succ_cons,uP,vR,List.flatMap_cons,List.append_assoc,Prod.mk.injEq,true_and]
   omega
  ·rw [if_neg hj,List.take_append_of_le_length (by omega),zBH h2 ⟨fun x hx=>hb.1 x (by simp only [List.mem_append];exact .inl hx),by have:=hb.2;rw [zla] at this;omega⟩ (by omega)]
   simp [bH,uP,vR,wR]
end Go.Ab
