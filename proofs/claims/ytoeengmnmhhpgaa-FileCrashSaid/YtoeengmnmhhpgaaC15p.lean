/- Plain laws of the functions wU this seat's, laid anew from another seat's text. No conditions but those that the theorems name. -/
import Derived.Test.YtoeengmnmhhpgaaP15xD
import Derived.Test.YtoeengmnmhhpgaaR15
import Derived.Test.YtoeengmnmhhpgaaB15a
import Derived.Test.YtoeengmnmhhpgaaB15b
import Derived.Test.YtoeengmnmhhpgaaB15c
import Derived.Test.YtoeengmnmhhpgaaB15d
import Derived.Test.YtoeengmnmhhpgaaB15e
import Derived.Test.YtoeengmnmhhpgaaB15f
import Derived.Test.YtoeengmnmhhpgaaB15g
import Derived.Test.YtoeengmnmhhpgaaB15h
import Derived.Test.YtoeengmnmhhpgaaB15i
import Derived.Test.YtoeengmnmhhpgaaB15j
import Derived.Test.YtoeengmnmhhpgaaB15k
import Derived.Test.YtoeengmnmhhpgaaB15t
import Derived.Test.YtoeengmnmhhpgaaB15m
import Derived.Test.YtoeengmnmhhpgaaB15n
import Derived.Test.YtoeengmnmhhpgaaB15o
import Derived.Test.YtoeengmnmhhpgaaC15a
import Derived.Test.YtoeengmnmhhpgaaC15b
import Derived.Test.YtoeengmnmhhpgaaC15c
import Derived.Test.YtoeengmnmhhpgaaC15d
import Derived.Test.YtoeengmnmhhpgaaC15e
import Derived.Test.YtoeengmnmhhpgaaC15f
import Derived.Test.YtoeengmnmhhpgaaC15g
import Derived.Test.YtoeengmnmhhpgaaC15h
import Derived.Test.YtoeengmnmhhpgaaC15i
import Derived.Test.YtoeengmnmhhpgaaC15j
import Derived.Test.YtoeengmnmhhpgaaC15k
import Derived.Test.YtoeengmnmhhpgaaC15l
import Derived.Test.YtoeengmnmhhpgaaC15m
import Derived.Test.YtoeengmnmhhpgaaC15n
import Derived.Test.YtoeengmnmhhpgaaC15o
namespace Go.Ab
open Go
set_option linter.unusedVariables false
structure Ack (h:zT) (l:List Fl) (d:z8):Prop where
 size:d.Size=60000
 data:d.Data=y9 72 (hdB h)++wC l
 dur:d.Durable=d.Data.length
 left:d.Left = -1
 down:d.Down=false
 ok:okF h h.Snaps [] l
 fits:d.Data.length≤60000
 bytes:∀ x∈d.Data,xO x
theorem Ack.chk {h:zT} {l:List Fl} {d:z8} (a:Ack h l d):vU d=0:=dQ (by
 have h1:=a.size;have h2:=a.dur;have h3:=a.left;have h4:=a.fits
 unfold pT
 omega)
theorem Ack.read {h:zT} {l:List Fl} {d:z8} (hl:jJ h) (h0:qB h=0) (a:Ack h l d):vJ d.Data=(⟨h.Threads,h.Domains,h.Snaps++qW l⟩,v9 l,(d.Data.length:Int)):=by
 rw [a.data]
 have h1:=a.bytes;have h2:=a.fits
 rw [a.data] at h1 h2
 exact zBq hl h0 a.ok ⟨h1,by omega⟩
theorem zC2 {s:List yQ} {q:List zQ} (hs:∀ x∈s,j9 x) (hq:∀ p∈q,p.Events.length≤60):∀ x∈(flC s q).flatten,xO x:=by
 intro x hx
 obtain ⟨c,hc,hxc⟩:=List.mem_flatten.1 hx
 unfold flC at hc
 simp only [List.mem_append,List.mem_map,List.mem_singleton] at hc
 rcases hc with (⟨y,hy,rfl⟩ | ⟨p,hp,rfl⟩) | rfl
 ·have:=fV y
  exact H1 OP (MY (hs y hy)) (by omega) x hxc
 ·have:=BH (hq p hp)
  exact H1 VN QR (by omega) x hxc
 ·exact H1 T2 (fun y hy=>by cases hy) (by simp) x hxc
theorem RL:∀ (l:List (List Int)),aM l=l.flatten.length
 | []=>rfl
 | a::r=>by rw [OU,RL r];simp
end Go.Ab
