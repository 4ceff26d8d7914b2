/- Plain laws of the functions wU this seat's, laid anew from another seat's text. No conditions but those that the theorems name. -/
import Derived.Test.YtoeengmnmhhpgaaP15xD
import Derived.Test.YtoeengmnmhhpgaaR15
import Derived.Test.YtoeengmnmhhpgaaB15a
import Derived.Test.YtoeengmnmhhpgaaB15b
import Derived.Test.YtoeengmnmhhpgaaB15c
import Derived.Test.YtoeengmnmhhpgaaB15d
import Derived.Test.YtoeengmnmhhpgaaB15e
import Derived.Test.YtoeengmnmhhpgaaB15f
import Derived.Test.YtoeengmnmhhpgaaB15g
import Derived.Test.YtoeengmnmhhpgaaB15h
import Derived.Test.YtoeengmnmhhpgaaB15i
import Derived.Test.YtoeengmnmhhpgaaB15j
import Derived.Test.YtoeengmnmhhpgaaB15k
import Derived.Test.YtoeengmnmhhpgaaB15t
import Derived.Test.YtoeengmnmhhpgaaB15m
import Derived.Test.YtoeengmnmhhpgaaB15n
import Derived.Test.YtoeengmnmhhpgaaB15o
import Derived.Test.YtoeengmnmhhpgaaC15a
import Derived.Test.YtoeengmnmhhpgaaC15b
import Derived.Test.YtoeengmnmhhpgaaC15c
import Derived.Test.YtoeengmnmhhpgaaC15d
import Derived.Test.YtoeengmnmhhpgaaC15e
import Derived.Test.YtoeengmnmhhpgaaC15f
import Derived.Test.YtoeengmnmhhpgaaC15g
import Derived.Test.YtoeengmnmhhpgaaC15h
import Derived.Test.YtoeengmnmhhpgaaC15i
import Derived.Test.YtoeengmnmhhpgaaC15j
import Derived.Test.YtoeengmnmhhpgaaC15k
import Derived.Test.YtoeengmnmhhpgaaC15l
import Derived.Test.YtoeengmnmhhpgaaC15m
import Derived.Test.YtoeengmnmhhpgaaC15n
namespace Go.Ab
open Go
set_option linter.unusedVariables false
theorem zBq {h:zT} {l:List Fl} (hl:jJ h) (h0:qB h=0) (ho:okF h h.Snaps [] l) (hb:wI (y9 72 (hdB h)++wC l)) :
  vJ (y9 72 (hdB h)++wC l)=(⟨h.Threads,h.Domains,h.Snaps++qW l⟩,v9 l,((y9 72 (hdB h)++wC l).length:Int)):=by
 rw [UJ hl h0]
 have hb2:=cC hb
 have:=TS l h.Snaps [] ((y9 72 (hdB h)).length:Int) [] ho (by rw [List.append_nil];exact hb2)
 rw [List.append_nil,EP (b:=[]) rfl] at this
 rw [show kU h ((y9 72 (hdB h)).length:Int)=⟨h.Snaps,[],((y9 72 (hdB h)).length:Int),h.Snaps,[],((y9 72 (hdB h)).length:Int),0⟩ from rfl,this]
 simp only [List.nil_append,zla]
 rw [show (((y9 72 (hdB h)).length:Nat):Int)+((wC l).length:Int)=(((y9 72 (hdB h)).length+(wC l).length:Nat):Int) by omega]
theorem UP {h:zT} {g:Fl}:∀ {l:List Fl} {S:List yQ} {P:List zQ},okF h S P l→(∀ x∈g.1,j9 x)→(∀ p∈g.2,p.Events.length≤60)→uZ h.Domains (S++qW l++g.1)=0→apS h (P++v9 l) g.2=.inl (P++v9 l++g.2)→evN (P++v9 l++g.2)≤20000→g.1.length+g.2.length≠0→okF h S P (l++[g])
 | [],S,P,_,h1,h2,h3,h4,h5,h6=>by
  simp only [qW,v9,List.flatMap_nil,List.append_nil] at h3 h4 h5
  exact ⟨h1,h2,h3,h4,h5,h6,trivial⟩
 | a::l,S,P,ho,h1,h2,h3,h4,h5,h6=>by
  obtain ⟨k1,k2,k3,k4,k5,k6,k7⟩:=ho
  have es:S++qW (a::l)=S++a.1++qW l:=by simp [qW]
  have ep:P++v9 (a::l)=P++a.2++v9 l:=by simp [v9]
  rw [es] at h3
  rw [ep] at h4 h5
  exact ⟨k1,k2,k3,k4,k5,k6,UP k7 h1 h2 h3 h4 h5 h6⟩
end Go.Ab
