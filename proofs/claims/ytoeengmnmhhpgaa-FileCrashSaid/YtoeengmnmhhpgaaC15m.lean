/- Plain laws of the functions wU this seat's, laid anew from another seat's text. No conditions but those that the theorems name. -/
import Derived.Test.YtoeengmnmhhpgaaP15xD
import Derived.Test.YtoeengmnmhhpgaaR15
import Derived.Test.YtoeengmnmhhpgaaB15a
import Derived.Test.YtoeengmnmhhpgaaB15b
import Derived.Test.YtoeengmnmhhpgaaB15c
import Derived.Test.YtoeengmnmhhpgaaB15d
import Derived.Test.YtoeengmnmhhpgaaB15e
import Derived.Test.YtoeengmnmhhpgaaB15f
import Derived.Test.YtoeengmnmhhpgaaB15g
import Derived.Test.YtoeengmnmhhpgaaB15h
import Derived.Test.YtoeengmnmhhpgaaB15i
import Derived.Test.YtoeengmnmhhpgaaB15j
import Derived.Test.YtoeengmnmhhpgaaB15k
import Derived.Test.YtoeengmnmhhpgaaB15t
import Derived.Test.YtoeengmnmhhpgaaB15m
import Derived.Test.YtoeengmnmhhpgaaB15n
import Derived.Test.YtoeengmnmhhpgaaB15o
import Derived.Test.YtoeengmnmhhpgaaC15a
import Derived.Test.YtoeengmnmhhpgaaC15b
import Derived.Test.YtoeengmnmhhpgaaC15c
import Derived.Test.YtoeengmnmhhpgaaC15d
import Derived.Test.YtoeengmnmhhpgaaC15e
import Derived.Test.YtoeengmnmhhpgaaC15f
import Derived.Test.YtoeengmnmhhpgaaC15g
import Derived.Test.YtoeengmnmhhpgaaC15h
import Derived.Test.YtoeengmnmhhpgaaC15i
import Derived.Test.YtoeengmnmhhpgaaC15j
import Derived.Test.YtoeengmnmhhpgaaC15k
import Derived.Test.YtoeengmnmhhpgaaC15l
namespace Go.Ab
open Go
set_option linter.unusedVariables false
theorem zCx {h:zT} {r:List Int} (hl:jJ h) (h0:qB h=0):jC (y9 72 (hdB h)++r)=some (h,r):=by
 have:=GE hl
 have hp:a9 (hdB h)=some (h,[]):=by have:=EN.back h [] hl;rwa [List.append_nil] at this
 unfold jC
 rw [BF (by omega)]
 simp only
 rw [if_pos trivial,hp]
 exact if_pos h0
theorem UJ {h:zT} {r:List Int} (hl:jJ h) (h0:qB h=0):vJ (y9 72 (hdB h)++r)=(⟨h.Threads,h.Domains,(run h (kU h (y9 72 (hdB h)).length) r).snaps⟩,(run h (kU h (y9 72 (hdB h)).length) r).packs,(run h (kU h (y9 72 (hdB h)).length) r).used):=by
 unfold vJ
 rw [zCx hl h0]
 simp only
 have e:fin (y9 72 (hdB h)++r) h r=run h (kU h (y9 72 (hdB h)).length) r:=by
  unfold fin run
  rw [show (((y9 72 (hdB h)++r).length:Int) - r.length)=((y9 72 (hdB h)).length:Int) by rw [zla];omega]
 rw [e]
theorem d7 {d:z8} (hc:vU d=0) (hd:d.Down=false):upD d=(d,0):=by
 unfold upD
 rw [if_neg (by simpa using hc),hd];rfl
theorem dQ {d:z8} (h:¬ pT d):vU d=0:=by unfold vU;exact if_neg h
theorem SM:∀ (l:List (List Int)) (d:z8),vU d=0→d.Down=false→d.Left = -1→(d.Data.length:Int)+l.flatten.length≤d.Size →
  aG d l=.inl ⟨d.Size,d.Data++l.flatten,d.Durable, -1,false⟩
 | [],d,hc,hd,hl,hs=>by
  obtain ⟨a,b,c,e,f⟩:=d
  simp only at hd hl
  subst hd;subst hl
  simp [aG]
 | b::r,d,hc,hd,hl,hs=>by
  obtain ⟨q1,q2,q3,q4,q5,q6,q7⟩:=fE hc
  simp only [List.flatten_cons,zla] at hs
  have ha:aP d b=(⟨d.Size,d.Data++b,d.Durable, -1,false⟩,0):=by
   unfold aP
   rw [d7 hc hd,if_neg (show ¬ (0:Int)≠0 by decide),if_neg (by omega),if_neg (by omega),if_neg (by omega),hl,hd]
  have hc2:vU ⟨d.Size,d.Data++b,d.Durable, -1,false⟩=0:=dQ (by
   unfold pT
   simp only [zla]
   omega)
  unfold aG
  rw [ha,if_neg (show ¬ (0:Int)≠0 by decide),SM r _ hc2 rfl rfl (by simp only [zla];omega)]
  simp
theorem X2 {l:List (List Int)} {d:z8} (hc:vU d=0) (hd:d.Down=false) (hl:d.Left = -1) (hs:(d.Data.length:Int)+l.flatten.length≤d.Size) :
  dK d l=(⟨d.Size,d.Data++l.flatten,(d.Data++l.flatten).length, -1,false⟩,0):=by
 obtain ⟨q1,q2,q3,q4,q5,q6,q7⟩:=fE hc
 unfold dK
 rw [SM l d hc hd hl hs]
 simp only
 unfold lT
 rw [d7 (dQ (by unfold pT;simp only [zla];omega)) rfl]
 rfl
end Go.Ab
