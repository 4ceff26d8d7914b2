/- Plain laws of the functions w6 this seat's, laid anew from another seat's text. No conditions but those that the theorems name. -/
import Derived.Test.YtoeengmnmhhpgaaP15xD
import Derived.Test.YtoeengmnmhhpgaaR15
import Derived.Test.YtoeengmnmhhpgaaB15a
import Derived.Test.YtoeengmnmhhpgaaB15b
import Derived.Test.YtoeengmnmhhpgaaB15c
import Derived.Test.YtoeengmnmhhpgaaB15d
import Derived.Test.YtoeengmnmhhpgaaB15e
import Derived.Test.YtoeengmnmhhpgaaB15f
import Derived.Test.YtoeengmnmhhpgaaB15g
import Derived.Test.YtoeengmnmhhpgaaB15h
import Derived.Test.YtoeengmnmhhpgaaB15i
import Derived.Test.YtoeengmnmhhpgaaB15j
import Derived.Test.YtoeengmnmhhpgaaB15k
import Derived.Test.YtoeengmnmhhpgaaB15t
import Derived.Test.YtoeengmnmhhpgaaB15m
import Derived.Test.YtoeengmnmhhpgaaB15n
import Derived.Test.YtoeengmnmhhpgaaB15o
import Derived.Test.YtoeengmnmhhpgaaC15a
import Derived.Test.YtoeengmnmhhpgaaC15b
namespace Go.Ab
open Go
set_option linter.unusedVariables false
theorem zA6 {t:xJ} (h:cE t=0):mB t:=by
 unfold cE at h
 split at h
 ·omega
 ·rename_i hb
  unfold dI at hb
  unfold mB yU
  refine ⟨by omega,?_,by omega⟩
  unfold uO at h
  split at h
  ·omega
  ·rename_i hn;simp only [not_or] at hn;omega
theorem NO {t:xJ} (h:mB t):(pJ t).length≤70:=by
 unfold pJ j7
 have h1:=(u9 t.Id).2;have h2:=(u9 t.Domain).2;have h3:=(u9 (t.Name.length:Int)).2
 unfold wW at *
 simp only [zla]
 have:=h.2.1
 omega
theorem N3 (d:y7):(nV d).length≤20:=by
 unfold nV
 have h1:=(u9 d.Id).2;have h2:=(u9 d.Ppm).2
 simp only [zla];omega
theorem dY (s:yP):(jD s).length≤50:=by
 unfold jD
 have h1:=(u9 s.A).2;have h2:=(u9 s.AtA).2;have h3:=(u9 s.B).2;have h4:=(u9 s.AtB.Lo).2;have h5:=(u9 s.AtB.Hi).2
 simp only [zla];omega
theorem lQ {α:Type} {f:α→List Int} {m:Nat}:∀ {l:List α},(∀ x∈l,(f x).length≤m)→(l.flatMap f).length≤m * l.length
 | [],_=>by simp
 | a::r,h=>by
  have h1:=h a (by simp)
  have h2:=lQ (l:=r) fun x hx=>h x (by simp [hx])
  simp only [List.flatMap_cons,zla,zlc,Nat.mul_add];omega
theorem DH {h:zU} (hl:jW h):(hdB h).length≤20000:=by
 unfold hdB
 have h1:=lQ (f:=pJ) (l:=h.Threads) fun x hx=>NO (hl.t x hx)
 have h2:=lQ (f:=nV) (l:=h.Domains) fun x hx=>N3 x
 have h3:=lQ (f:=jD) (l:=h.Snaps) fun x hx=>dY x
 have k1:=(u9 (h.Threads.length:Int)).2;have k2:=(u9 (h.Domains.length:Int)).2;have k3:=(u9 (h.Snaps.length:Int)).2
 have q1:=hl.nt;have q2:=hl.nd;have q3:=hl.ns
 simp only [zla];omega
theorem MD {b:List Int} {s:yP} (hl:b.length≤1000000) (hs:kF s):iO 281474976710656 b s=some (b++jD s):=by
 obtain ⟨l1,l2,l3,l4,l5⟩:=hs
 have h1:=(u9 s.A).2;have h2:=(u9 s.AtA).2;have h3:=(u9 s.B).2;have h4:=(u9 s.AtB.Lo).2
 unfold wW at *
 unfold iO
 have step:∀ (m:Nat) (i:Nat) (x:Int) (b:List Int),i<5→xG ([s.A,s.AtA,s.B,s.AtB.Lo,s.AtB.Hi]:List Int) (i:Nat)=some x→yU x→b.length≤2000000 →
   gA 281474976710656 s (m+1) b (i:Nat)=gA 281474976710656 s m (b++wI 9 (wB x)) ((i+1:Nat):Int):=by
  intro m i x b hi hx ho hb
  show lI _ _ _ _ _=_
  unfold lI
  rw [yR (by omega),cond_true,hx,zbs,jV ho (by omega) (by omega),zbs,vC (by omega)]
 have e:gA 281474976710656 s 281474976710656 b (0:Int)=some (b++jD s):=by
  refine Eq.trans (step 281474976710655 0 s.A b (by omega) rfl l1 (by omega)) ?_
  refine Eq.trans (step 281474976710654 1 s.AtA _ (by omega) rfl l2 (by simp only [zla];omega)) ?_
  refine Eq.trans (step 281474976710653 2 s.B _ (by omega) rfl l3 (by simp only [zla];omega)) ?_
  refine Eq.trans (step 281474976710652 3 s.AtB.Lo _ (by omega) rfl l4 (by simp only [zla];omega)) ?_
  refine Eq.trans (step 281474976710651 4 s.AtB.Hi _ (by omega) rfl l5 (by simp only [zla];omega)) ?_
  show lI _ _ _ _ _=_
  unfold lI
  rw [yO (by omega),cond_false]
  simp [jD,wW]
 rw [e];rfl
theorem XP {h:zU} (hl:jW h):∀ (m i:Nat) (row:List Int),(h.Threads.drop i).length<m→row.length+70 * (h.Threads.drop i).length≤100000→lA 281474976710656 h m (i:Nat) row=some (row++(h.Threads.drop i).flatMap pJ):=by
 intro m
 induction m with
 | zero=>intro i row h;omega
 | succ m ih =>
  intro i row hm hr
  show CS _ _ _ _ _=_
  unfold CS
  rcases hd:h.Threads.drop i with _ | ⟨x,r⟩
  ·have:=jL hd
   rw [yO (by omega),cond_false];simp
  ·have hi:=jG hd
   rw [hd] at hm hr
   simp only [zlc] at hm hr
   have hx:=hl.t x (cU hd)
   have hb:=NO hx
   have hnt:=hl.nt
   have h1:=(u9 x.Id).2;have h2:=(u9 (x.Name.length:Int)).2
   have hn:=hx.2.1
   unfold wW at h1 h2
   rw [yR (by omega),cond_true]
   simp only [w9 hd,zbs]
   rw [jV hx.1 (by omega) (by omega),zbs]
   rw [TY (by rw [zla];omega) (by omega) (by omega),zbs]
   rw [jV hx.2.2 (by simp only [zla];omega) (by omega),zbs,vC (by omega)]
   rw [show row++wI 9 (wB x.Id)++wI 9 (wB (x.Name.length:Int))++x.Name++wI 9 (wB x.Domain)=row++pJ x by simp [pJ,j7,wW]]
   rw [ih (i+1) _ (by rw [vQ hd];omega) (by rw [vQ hd,zla];omega),vQ hd,List.flatMap_cons,List.append_assoc]
theorem YZ {h:zU} (hl:jW h):∀ (m i:Nat) (row:List Int),(h.Domains.drop i).length<m→row.length+20 * (h.Domains.drop i).length≤100000→oP 281474976710656 h m (i:Nat) row=some (row++(h.Domains.drop i).flatMap nV):=by
 intro m
 induction m with
 | zero=>intro i row h;omega
 | succ m ih =>
  intro i row hm hr
  show AQ _ _ _ _ _=_
  unfold AQ
  rcases hd:h.Domains.drop i with _ | ⟨x,r⟩
  ·have:=jL hd
   rw [yO (by omega),cond_false];simp
  ·have hi:=jG hd
   rw [hd] at hm hr
   simp only [zlc] at hm hr
   have hx:=hl.d x (cU hd)
   have hb:=N3 x
   have hnt:=hl.nd
   have h1:=(u9 x.Id).2
   unfold wW at h1
   rw [yR (by omega),cond_true]
   simp only [w9 hd,zbs]
   rw [jV hx.1 (by omega) (by omega),zbs]
   rw [jV hx.2 (by simp only [zla];omega) (by omega),zbs,vC (by omega)]
   rw [show row++wI 9 (wB x.Id)++wI 9 (wB x.Ppm)=row++nV x by simp [nV,wW]]
   rw [ih (i+1) _ (by rw [vQ hd];omega) (by rw [vQ hd,zla];omega),vQ hd,List.flatMap_cons,List.append_assoc]
theorem W1 {h:zU} (hl:jW h):∀ (m i:Nat) (row:List Int),(h.Snaps.drop i).length<m→row.length+50 * (h.Snaps.drop i).length≤100000→oM 281474976710656 h m row (i:Nat)=some (row++(h.Snaps.drop i).flatMap jD):=by
 intro m
 induction m with
 | zero=>intro i row h;omega
 | succ m ih =>
  intro i row hm hr
  show AP _ _ _ _ _=_
  unfold AP
  rcases hd:h.Snaps.drop i with _ | ⟨x,r⟩
  ·have:=jL hd
   rw [yO (by omega),cond_false];simp
  ·have hi:=jG hd
   rw [hd] at hm hr
   simp only [zlc] at hm hr
   have hx:=hl.s x (cU hd)
   have hb:=dY x
   have hnt:=hl.ns
   rw [yR (by omega),cond_true]
   simp only [w9 hd,zbs]
   rw [MD (by omega) hx,zbs,vC (by omega)]
   rw [ih (i+1) _ (by rw [vQ hd];omega) (by rw [vQ hd,zla];omega),vQ hd,List.flatMap_cons,List.append_assoc]
theorem Q2 {h:zU} (hl:jW h):rO 281474976710656 h=some (hdB h):=by
 have h1:=lQ (f:=pJ) (l:=h.Threads) fun x hx=>NO (hl.t x hx)
 have h2:=lQ (f:=nV) (l:=h.Domains) fun x hx=>N3 x
 have h3:=lQ (f:=jD) (l:=h.Snaps) fun x hx=>dY x
 have k1:=(u9 (h.Threads.length:Int)).2;have k2:=(u9 (h.Domains.length:Int)).2;have k3:=(u9 (h.Snaps.length:Int)).2
 have q1:=hl.nt;have q2:=hl.nd;have q3:=hl.ns
 unfold rO
 rw [jV (by unfold yU;omega) (by simp) (by omega),zbs,List.nil_append]
 change (((lA 281474976710656 h 281474976710656 (0:Int) (wW (h.Threads.length:Int))).bind fun _=>_)=_)
 have e1:=XP hl 281474976710656 0 (wW (h.Threads.length:Int)) (by simp;omega) (by simp;omega)
 rw [zdz] at e1
 rw [show lA 281474976710656 h 281474976710656 (0:Int) (wW (h.Threads.length:Int))=_ from e1,zbs,jV (by unfold yU;omega) (by simp only [zla];omega) (by omega),zbs]
 have e2:=YZ hl 281474976710656 0 (wW (h.Threads.length:Int)++h.Threads.flatMap pJ++wW (h.Domains.length:Int)) (by simp;omega) (by simp only [zla,zdz];omega)
 rw [zdz] at e2
 rw [show oP 281474976710656 h 281474976710656 (0:Int) (wW (h.Threads.length:Int)++h.Threads.flatMap pJ++wI 9 (wB (h.Domains.length:Int)))=_ from e2,zbs,jV (by unfold yU;omega) (by simp only [zla];omega) (by omega),zbs]
 have e3:=W1 hl 281474976710656 0 (wW (h.Threads.length:Int)++h.Threads.flatMap pJ++wW (h.Domains.length:Int)++h.Domains.flatMap nV++wW (h.Snaps.length:Int)) (by simp;omega) (by simp only [zla,zdz];omega)
 rw [zdz] at e3
 rw [show oM 281474976710656 h 281474976710656 (wW (h.Threads.length:Int)++h.Threads.flatMap pJ++wW (h.Domains.length:Int)++h.Domains.flatMap nV++wI 9 (wB (h.Snaps.length:Int))) (0:Int)=_ from e3];rfl
end Go.Ab
