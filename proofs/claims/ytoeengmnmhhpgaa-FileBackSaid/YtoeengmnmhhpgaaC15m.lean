/- Plain laws of the functions w6 this seat's, laid anew from another seat's text. No conditions but those that the theorems name. -/
import Derived.Test.YtoeengmnmhhpgaaP15xD
import Derived.Test.YtoeengmnmhhpgaaR15
import Derived.Test.YtoeengmnmhhpgaaB15a
import Derived.Test.YtoeengmnmhhpgaaB15b
import Derived.Test.YtoeengmnmhhpgaaB15c
import Derived.Test.YtoeengmnmhhpgaaB15d
import Derived.Test.YtoeengmnmhhpgaaB15e
import Derived.Test.YtoeengmnmhhpgaaB15f
import Derived.Test.YtoeengmnmhhpgaaB15g
import Derived.Test.YtoeengmnmhhpgaaB15h
import Derived.Test.YtoeengmnmhhpgaaB15i
import Derived.Test.YtoeengmnmhhpgaaB15j
import Derived.Test.YtoeengmnmhhpgaaB15k
import Derived.Test.YtoeengmnmhhpgaaB15t
import Derived.Test.YtoeengmnmhhpgaaB15m
import Derived.Test.YtoeengmnmhhpgaaB15n
import Derived.Test.YtoeengmnmhhpgaaB15o
import Derived.Test.YtoeengmnmhhpgaaC15a
import Derived.Test.YtoeengmnmhhpgaaC15b
import Derived.Test.YtoeengmnmhhpgaaC15c
import Derived.Test.YtoeengmnmhhpgaaC15d
import Derived.Test.YtoeengmnmhhpgaaC15e
import Derived.Test.YtoeengmnmhhpgaaC15f
import Derived.Test.YtoeengmnmhhpgaaC15g
import Derived.Test.YtoeengmnmhhpgaaC15h
import Derived.Test.YtoeengmnmhhpgaaC15i
import Derived.Test.YtoeengmnmhhpgaaC15j
import Derived.Test.YtoeengmnmhhpgaaC15k
import Derived.Test.YtoeengmnmhhpgaaC15l
namespace Go.Ab
open Go
set_option linter.unusedVariables false
theorem zAR {h:zU} {r:List Int} (hl:jW h) (h0:qP h=0):jR (xL 72 (hdB h)++r)=some (h,r):=by
 have:=DH hl
 have hp:aP (hdB h)=some (h,[]):=by have:=E4.back h [] hl;rwa [List.append_nil] at this
 unfold jR
 rw [CP (by omega)]
 simp only
 rw [if_pos trivial,hp]
 exact if_pos h0
theorem R9 {h:zU} {r:List Int} (hl:jW h) (h0:qP h=0):vZ (xL 72 (hdB h)++r)=(⟨h.Threads,h.Domains,(run h (a9 h (xL 72 (hdB h)).length) r).snaps⟩,(run h (a9 h (xL 72 (hdB h)).length) r).packs,(run h (a9 h (xL 72 (hdB h)).length) r).used):=by
 unfold vZ
 rw [zAR hl h0]
 simp only
 have e:fin (xL 72 (hdB h)++r) h r=run h (a9 h (xL 72 (hdB h)).length) r:=by
  unfold fin run
  rw [show (((xL 72 (hdB h)++r).length:Int) - r.length)=((xL 72 (hdB h)).length:Int) by rw [zla];omega]
 rw [e]
theorem S4 {d:z9} (hc:u5 d=0) (hd:d.Down=false):upD d=(d,0):=by
 unfold upD
 rw [if_neg (by simpa using hc),hd];rfl
theorem MO {d:z9} (h:¬ cD d):u5 d=0:=by unfold u5;exact if_neg h
theorem RC:∀ (l:List (List Int)) (d:z9),u5 d=0→d.Down=false→d.Left = -1→(d.Data.length:Int)+l.flatten.length≤d.Size →
  fN d l=.inl ⟨d.Size,d.Data++l.flatten,d.Durable, -1,false⟩
 | [],d,hc,hd,hl,hs=>by
  obtain ⟨a,b,c,e,f⟩:=d
  simp only at hd hl
  subst hd;subst hl
  simp [fN]
 | b::r,d,hc,hd,hl,hs=>by
  obtain ⟨q1,q2,q3,q4,q5,q6,q7⟩:=DN hc
  simp only [List.flatten_cons,zla] at hs
  have ha:fI d b=(⟨d.Size,d.Data++b,d.Durable, -1,false⟩,0):=by
   unfold fI
   rw [S4 hc hd,if_neg (show ¬ (0:Int)≠0 by decide),if_neg (by omega),if_neg (by omega),if_neg (by omega),hl,hd]
  have hc2:u5 ⟨d.Size,d.Data++b,d.Durable, -1,false⟩=0:=MO (by
   unfold cD
   simp only [zla]
   omega)
  unfold fN
  rw [ha,if_neg (show ¬ (0:Int)≠0 by decide),RC r _ hc2 rfl rfl (by simp only [zla];omega)]
  simp
theorem OW {l:List (List Int)} {d:z9} (hc:u5 d=0) (hd:d.Down=false) (hl:d.Left = -1) (hs:(d.Data.length:Int)+l.flatten.length≤d.Size) :
  rS d l=(⟨d.Size,d.Data++l.flatten,(d.Data++l.flatten).length, -1,false⟩,0):=by
 obtain ⟨q1,q2,q3,q4,q5,q6,q7⟩:=DN hc
 unfold rS
 rw [RC l d hc hd hl hs]
 simp only
 unfold HD
 rw [S4 (MO (by unfold cD;simp only [zla];omega)) rfl]
 rfl
end Go.Ab
