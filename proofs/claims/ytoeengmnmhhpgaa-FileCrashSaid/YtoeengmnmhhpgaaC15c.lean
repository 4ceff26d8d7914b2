/- Plain laws of the functions wU this seat's, laid anew from another seat's text. No conditions but those that the theorems name. -/
import Derived.Test.YtoeengmnmhhpgaaP15xD
import Derived.Test.YtoeengmnmhhpgaaR15
import Derived.Test.YtoeengmnmhhpgaaB15a
import Derived.Test.YtoeengmnmhhpgaaB15b
import Derived.Test.YtoeengmnmhhpgaaB15c
import Derived.Test.YtoeengmnmhhpgaaB15d
import Derived.Test.YtoeengmnmhhpgaaB15e
import Derived.Test.YtoeengmnmhhpgaaB15f
import Derived.Test.YtoeengmnmhhpgaaB15g
import Derived.Test.YtoeengmnmhhpgaaB15h
import Derived.Test.YtoeengmnmhhpgaaB15i
import Derived.Test.YtoeengmnmhhpgaaB15j
import Derived.Test.YtoeengmnmhhpgaaB15k
import Derived.Test.YtoeengmnmhhpgaaB15t
import Derived.Test.YtoeengmnmhhpgaaB15m
import Derived.Test.YtoeengmnmhhpgaaB15n
import Derived.Test.YtoeengmnmhhpgaaB15o
import Derived.Test.YtoeengmnmhhpgaaC15a
import Derived.Test.YtoeengmnmhhpgaaC15b
namespace Go.Ab
open Go
set_option linter.unusedVariables false
theorem Y9 {t:xH} (h:cW t=0):o6 t:=by
 unfold cW at h
 split at h
 ·omega
 ·rename_i hb
  unfold fU at hb
  unfold o6 yS
  refine ⟨by omega,?_,by omega⟩
  unfold uL at h
  split at h
  ·omega
  ·rename_i hn;simp only [not_or] at hn;omega
theorem KW {t:xH} (h:o6 t):(pI t).length≤70:=by
 unfold pI jZ
 have h1:=(u7 t.Id).2;have h2:=(u7 t.Domain).2;have h3:=(u7 (t.Name.length:Int)).2
 unfold wY at *
 simp only [zla]
 have:=h.2.1
 omega
theorem L2 (d:y0):(nW d).length≤20:=by
 unfold nW
 have h1:=(u7 d.Id).2;have h2:=(u7 d.Ppm).2
 simp only [zla];omega
theorem fV (s:yQ):(jB s).length≤50:=by
 unfold jB
 have h1:=(u7 s.A).2;have h2:=(u7 s.AtA).2;have h3:=(u7 s.B).2;have h4:=(u7 s.AtB.Lo).2;have h5:=(u7 s.AtB.Hi).2
 simp only [zla];omega
theorem g8 {α:Type} {f:α→List Int} {m:Nat}:∀ {l:List α},(∀ x∈l,(f x).length≤m)→(l.flatMap f).length≤m * l.length
 | [],_=>by simp
 | a::r,h=>by
  have h1:=h a (by simp)
  have h2:=g8 (l:=r) fun x hx=>h x (by simp [hx])
  simp only [List.flatMap_cons,zla,zlc,Nat.mul_add];omega
theorem GE {h:zT} (hl:jJ h):(hdB h).length≤20000:=by
 unfold hdB
 have h1:=g8 (f:=pI) (l:=h.Threads) fun x hx=>KW (hl.t x hx)
 have h2:=g8 (f:=nW) (l:=h.Domains) fun x hx=>L2 x
 have h3:=g8 (f:=jB) (l:=h.Snaps) fun x hx=>fV x
 have k1:=(u7 (h.Threads.length:Int)).2;have k2:=(u7 (h.Domains.length:Int)).2;have k3:=(u7 (h.Snaps.length:Int)).2
 have q1:=hl.nt;have q2:=hl.nd;have q3:=hl.ns
 simp only [zla];omega
theorem NH {b:List Int} {s:yQ} (hl:b.length≤1000000) (hs:j9 s):gW 281474976710656 b s=some (b++jB s):=by
 obtain ⟨l1,l2,l3,l4,l5⟩:=hs
 have h1:=(u7 s.A).2;have h2:=(u7 s.AtA).2;have h3:=(u7 s.B).2;have h4:=(u7 s.AtB.Lo).2
 unfold wY at *
 unfold gW
 have step:∀ (m:Nat) (i:Nat) (x:Int) (b:List Int),i<5→xI ([s.A,s.AtA,s.B,s.AtB.Lo,s.AtB.Hi]:List Int) (i:Nat)=some x→yS x→b.length≤2000000 →
   lA 281474976710656 s (m+1) b (i:Nat)=lA 281474976710656 s m (b++wK 9 (wF x)) ((i+1:Nat):Int):=by
  intro m i x b hi hx ho hb
  show mC _ _ _ _ _=_
  unfold mC
  rw [yU (by omega),cond_true,hx,zbs,jK ho (by omega) (by omega),zbs,vK (by omega)]
 have e:lA 281474976710656 s 281474976710656 b (0:Int)=some (b++jB s):=by
  refine Eq.trans (step 281474976710655 0 s.A b (by omega) rfl l1 (by omega)) ?_
  refine Eq.trans (step 281474976710654 1 s.AtA _ (by omega) rfl l2 (by simp only [zla];omega)) ?_
  refine Eq.trans (step 281474976710653 2 s.B _ (by omega) rfl l3 (by simp only [zla];omega)) ?_
  refine Eq.trans (step 281474976710652 3 s.AtB.Lo _ (by omega) rfl l4 (by simp only [zla];omega)) ?_
  refine Eq.trans (step 281474976710651 4 s.AtB.Hi _ (by omega) rfl l5 (by simp only [zla];omega)) ?_
  show mC _ _ _ _ _=_
  unfold mC
  rw [yO (by omega),cond_false]
  simp [jB,wY]
 rw [e];rfl
theorem zAp {h:zT} (hl:jJ h):∀ (m i:Nat) (row:List Int),(h.Threads.drop i).length<m→row.length+70 * (h.Threads.drop i).length≤100000→gF 281474976710656 h m (i:Nat) row=some (row++(h.Threads.drop i).flatMap pI):=by
 intro m
 induction m with
 | zero=>intro i row h;omega
 | succ m ih =>
  intro i row hm hr
  show AD _ _ _ _ _=_
  unfold AD
  rcases hd:h.Threads.drop i with _ | ⟨x,r⟩
  ·have:=jO hd
   rw [yO (by omega),cond_false];simp
  ·have hi:=q9 hd
   rw [hd] at hm hr
   simp only [zlc] at hm hr
   have hx:=hl.t x (dC hd)
   have hb:=KW hx
   have hnt:=hl.nt
   have h1:=(u7 x.Id).2;have h2:=(u7 (x.Name.length:Int)).2
   have hn:=hx.2.1
   unfold wY at h1 h2
   rw [yU (by omega),cond_true]
   simp only [vS hd,zbs]
   rw [jK hx.1 (by omega) (by omega),zbs]
   rw [SB (by rw [zla];omega) (by omega) (by omega),zbs]
   rw [jK hx.2.2 (by simp only [zla];omega) (by omega),zbs,vK (by omega)]
   rw [show row++wK 9 (wF x.Id)++wK 9 (wF (x.Name.length:Int))++x.Name++wK 9 (wF x.Domain)=row++pI x by simp [pI,jZ,wY]]
   rw [ih (i+1) _ (by rw [vN hd];omega) (by rw [vN hd,zla];omega),vN hd,List.flatMap_cons,List.append_assoc]
theorem zAC {h:zT} (hl:jJ h):∀ (m i:Nat) (row:List Int),(h.Domains.drop i).length<m→row.length+20 * (h.Domains.drop i).length≤100000→AC 281474976710656 h m (i:Nat) row=some (row++(h.Domains.drop i).flatMap nW):=by
 intro m
 induction m with
 | zero=>intro i row h;omega
 | succ m ih =>
  intro i row hm hr
  show BO _ _ _ _ _=_
  unfold BO
  rcases hd:h.Domains.drop i with _ | ⟨x,r⟩
  ·have:=jO hd
   rw [yO (by omega),cond_false];simp
  ·have hi:=q9 hd
   rw [hd] at hm hr
   simp only [zlc] at hm hr
   have hx:=hl.d x (dC hd)
   have hb:=L2 x
   have hnt:=hl.nd
   have h1:=(u7 x.Id).2
   unfold wY at h1
   rw [yU (by omega),cond_true]
   simp only [vS hd,zbs]
   rw [jK hx.1 (by omega) (by omega),zbs]
   rw [jK hx.2 (by simp only [zla];omega) (by omega),zbs,vK (by omega)]
   rw [show row++wK 9 (wF x.Id)++wK 9 (wF x.Ppm)=row++nW x by simp [nW,wY]]
   rw [ih (i+1) _ (by rw [vN hd];omega) (by rw [vN hd,zla];omega),vN hd,List.flatMap_cons,List.append_assoc]
theorem zDT {h:zT} (hl:jJ h):∀ (m i:Nat) (row:List Int),(h.Snaps.drop i).length<m→row.length+50 * (h.Snaps.drop i).length≤100000→mN 281474976710656 h m row (i:Nat)=some (row++(h.Snaps.drop i).flatMap jB):=by
 intro m
 induction m with
 | zero=>intro i row h;omega
 | succ m ih =>
  intro i row hm hr
  show B6 _ _ _ _ _=_
  unfold B6
  rcases hd:h.Snaps.drop i with _ | ⟨x,r⟩
  ·have:=jO hd
   rw [yO (by omega),cond_false];simp
  ·have hi:=q9 hd
   rw [hd] at hm hr
   simp only [zlc] at hm hr
   have hx:=hl.s x (dC hd)
   have hb:=fV x
   have hnt:=hl.ns
   rw [yU (by omega),cond_true]
   simp only [vS hd,zbs]
   rw [NH (by omega) hx,zbs,vK (by omega)]
   rw [ih (i+1) _ (by rw [vN hd];omega) (by rw [vN hd,zla];omega),vN hd,List.flatMap_cons,List.append_assoc]
theorem VB {h:zT} (hl:jJ h):rH 281474976710656 h=some (hdB h):=by
 have h1:=g8 (f:=pI) (l:=h.Threads) fun x hx=>KW (hl.t x hx)
 have h2:=g8 (f:=nW) (l:=h.Domains) fun x hx=>L2 x
 have h3:=g8 (f:=jB) (l:=h.Snaps) fun x hx=>fV x
 have k1:=(u7 (h.Threads.length:Int)).2;have k2:=(u7 (h.Domains.length:Int)).2;have k3:=(u7 (h.Snaps.length:Int)).2
 have q1:=hl.nt;have q2:=hl.nd;have q3:=hl.ns
 unfold rH
 rw [jK (by unfold yS;omega) (by simp) (by omega),zbs,List.nil_append]
 change (((gF 281474976710656 h 281474976710656 (0:Int) (wY (h.Threads.length:Int))).bind fun _=>_)=_)
 have e1:=zAp hl 281474976710656 0 (wY (h.Threads.length:Int)) (by simp;omega) (by simp;omega)
 rw [zdz] at e1
 rw [show gF 281474976710656 h 281474976710656 (0:Int) (wY (h.Threads.length:Int))=_ from e1,zbs,jK (by unfold yS;omega) (by simp only [zla];omega) (by omega),zbs]
 have e2:=zAC hl 281474976710656 0 (wY (h.Threads.length:Int)++h.Threads.flatMap pI++wY (h.Domains.length:Int)) (by simp;omega) (by simp only [zla,zdz];omega)
 rw [zdz] at e2
 rw [show AC 281474976710656 h 281474976710656 (0:Int) (wY (h.Threads.length:Int)++h.Threads.flatMap pI++wK 9 (wF (h.Domains.length:Int)))=_ from e2,zbs,jK (by unfold yS;omega) (by simp only [zla];omega) (by omega),zbs]
 have e3:=zDT hl 281474976710656 0 (wY (h.Threads.length:Int)++h.Threads.flatMap pI++wY (h.Domains.length:Int)++h.Domains.flatMap nW++wY (h.Snaps.length:Int)) (by simp;omega) (by simp only [zla,zdz];omega)
 rw [zdz] at e3
 rw [show mN 281474976710656 h 281474976710656 (wY (h.Threads.length:Int)++h.Threads.flatMap pI++wY (h.Domains.length:Int)++h.Domains.flatMap nW++wK 9 (wF (h.Snaps.length:Int))) (0:Int)=_ from e3];rfl
end Go.Ab
