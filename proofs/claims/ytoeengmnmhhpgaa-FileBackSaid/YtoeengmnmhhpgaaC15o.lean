/- Plain laws of the functions w6 this seat's, laid anew from another seat's text. No conditions but those that the theorems name. -/
import Derived.Test.YtoeengmnmhhpgaaP15xD
import Derived.Test.YtoeengmnmhhpgaaR15
import Derived.Test.YtoeengmnmhhpgaaB15a
import Derived.Test.YtoeengmnmhhpgaaB15b
import Derived.Test.YtoeengmnmhhpgaaB15c
import Derived.Test.YtoeengmnmhhpgaaB15d
import Derived.Test.YtoeengmnmhhpgaaB15e
import Derived.Test.YtoeengmnmhhpgaaB15f
import Derived.Test.YtoeengmnmhhpgaaB15g
import Derived.Test.YtoeengmnmhhpgaaB15h
import Derived.Test.YtoeengmnmhhpgaaB15i
import Derived.Test.YtoeengmnmhhpgaaB15j
import Derived.Test.YtoeengmnmhhpgaaB15k
import Derived.Test.YtoeengmnmhhpgaaB15t
import Derived.Test.YtoeengmnmhhpgaaB15m
import Derived.Test.YtoeengmnmhhpgaaB15n
import Derived.Test.YtoeengmnmhhpgaaB15o
import Derived.Test.YtoeengmnmhhpgaaC15a
import Derived.Test.YtoeengmnmhhpgaaC15b
import Derived.Test.YtoeengmnmhhpgaaC15c
import Derived.Test.YtoeengmnmhhpgaaC15d
import Derived.Test.YtoeengmnmhhpgaaC15e
import Derived.Test.YtoeengmnmhhpgaaC15f
import Derived.Test.YtoeengmnmhhpgaaC15g
import Derived.Test.YtoeengmnmhhpgaaC15h
import Derived.Test.YtoeengmnmhhpgaaC15i
import Derived.Test.YtoeengmnmhhpgaaC15j
import Derived.Test.YtoeengmnmhhpgaaC15k
import Derived.Test.YtoeengmnmhhpgaaC15l
import Derived.Test.YtoeengmnmhhpgaaC15m
import Derived.Test.YtoeengmnmhhpgaaC15n
namespace Go.Ab
open Go
set_option linter.unusedVariables false
theorem YQ {h:zU} {l:List Fl} (hl:jW h) (h0:qP h=0) (ho:okF h h.Snaps [] l) (hb:wM (xL 72 (hdB h)++wR l)) :
  vZ (xL 72 (hdB h)++wR l)=(⟨h.Threads,h.Domains,h.Snaps++uP l⟩,vR l,((xL 72 (hdB h)++wR l).length:Int)):=by
 rw [R9 hl h0]
 have hb2:=bX hb
 have:=UX l h.Snaps [] ((xL 72 (hdB h)).length:Int) [] ho (by rw [List.append_nil];exact hb2)
 rw [List.append_nil,H8 (b:=[]) rfl] at this
 rw [show a9 h ((xL 72 (hdB h)).length:Int)=⟨h.Snaps,[],((xL 72 (hdB h)).length:Int),h.Snaps,[],((xL 72 (hdB h)).length:Int),0⟩ from rfl,this]
 simp only [List.nil_append,zla]
 rw [show (((xL 72 (hdB h)).length:Nat):Int)+((wR l).length:Int)=(((xL 72 (hdB h)).length+(wR l).length:Nat):Int) by omega]
theorem OF {h:zU} {g:Fl}:∀ {l:List Fl} {S:List yP} {P:List zQ},okF h S P l→(∀ x∈g.1,kF x)→(∀ p∈g.2,p.Events.length≤60)→tJ h.Domains (S++uP l++g.1)=0→apS h (P++vR l) g.2=.inl (P++vR l++g.2)→evN (P++vR l++g.2)≤20000→g.1.length+g.2.length≠0→okF h S P (l++[g])
 | [],S,P,_,h1,h2,h3,h4,h5,h6=>by
  simp only [uP,vR,List.flatMap_nil,List.append_nil] at h3 h4 h5
  exact ⟨h1,h2,h3,h4,h5,h6,trivial⟩
 | a::l,S,P,ho,h1,h2,h3,h4,h5,h6=>by
  obtain ⟨k1,k2,k3,k4,k5,k6,k7⟩:=ho
  have es:S++uP (a::l)=S++a.1++uP l:=by simp [uP]
  have ep:P++vR (a::l)=P++a.2++vR l:=by simp [vR]
  rw [es] at h3
  rw [ep] at h4 h5
  exact ⟨k1,k2,k3,k4,k5,k6,OF k7 h1 h2 h3 h4 h5 h6⟩
end Go.Ab
