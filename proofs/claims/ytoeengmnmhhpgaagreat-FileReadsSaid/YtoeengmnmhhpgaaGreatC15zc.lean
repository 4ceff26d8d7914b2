/- Plain laws of the functions uV this seat's, laid anew from another seat's text. No conditions but those that the theorems name. -/
import Derived.Test.YtoeengmnmhhpgaaGreatP15zxD
import Derived.Test.YtoeengmnmhhpgaaGreatR15z
import Derived.Test.YtoeengmnmhhpgaaGreatB15za
import Derived.Test.YtoeengmnmhhpgaaGreatB15zb
import Derived.Test.YtoeengmnmhhpgaaGreatB15zc
import Derived.Test.YtoeengmnmhhpgaaGreatB15zd
import Derived.Test.YtoeengmnmhhpgaaGreatB15ze
import Derived.Test.YtoeengmnmhhpgaaGreatB15zf
import Derived.Test.YtoeengmnmhhpgaaGreatB15zg
import Derived.Test.YtoeengmnmhhpgaaGreatB15zh
import Derived.Test.YtoeengmnmhhpgaaGreatB15zi
import Derived.Test.YtoeengmnmhhpgaaGreatB15zj
import Derived.Test.YtoeengmnmhhpgaaGreatB15zk
import Derived.Test.YtoeengmnmhhpgaaGreatB15zt
import Derived.Test.YtoeengmnmhhpgaaGreatB15zm
import Derived.Test.YtoeengmnmhhpgaaGreatB15zn
import Derived.Test.YtoeengmnmhhpgaaGreatB15zo
import Derived.Test.YtoeengmnmhhpgaaGreatC15za
import Derived.Test.YtoeengmnmhhpgaaGreatC15zb
namespace Go.Ab
open Go
set_option linter.unusedVariables false
theorem XK {t:y7} (h:KC t):(nU t).length≤70:=by
 unfold nU bU
 have h1:=(jF t.Id).2;have h2:=(jF t.Domain).2;have h3:=(jF (t.Name.length:Int)).2
 unfold uO at *
 simp only [List.length_append]
 have:=h.2.1
 omega
theorem S5 (d:yS):(aZ d).length≤20:=by
 unfold aZ
 have h1:=(jF d.Id).2;have h2:=(jF d.Ppm).2
 simp only [List.length_append];omega
theorem UU (s:yU):(aU s).length≤50:=by
 unfold aU
 have h1:=(jF s.A).2;have h2:=(jF s.AtA).2;have h3:=(jF s.B).2;have h4:=(jF s.AtB.Lo).2;have h5:=(jF s.AtB.Hi).2
 simp only [List.length_append];omega
theorem KY {α:Type} {f:α→List Int} {m:Nat}:∀ {l:List α},(∀ x∈l,(f x).length≤m)→(l.flatMap f).length≤m * l.length
 | [],_=>by simp
 | a::r,h=>by
  have h1:=h a (by simp)
  have h2:=KY (l:=r) fun x hx=>h x (by simp [hx])
  simp only [List.flatMap_cons,List.length_append,List.length_cons,Nat.mul_add];omega
theorem S6 {b:List Int} {s:yU} (hl:b.length≤1000000) (hs:LZ s):oJ 281474976710656 b s=some (b++aU s):=by
 obtain ⟨l1,l2,l3,l4,l5⟩:=hs
 have h1:=(jF s.A).2;have h2:=(jF s.AtA).2;have h3:=(jF s.B).2;have h4:=(jF s.AtB.Lo).2
 unfold uO at *
 unfold oJ
 have step:∀ (m:Nat) (i:Nat) (x:Int) (b:List Int),i<5→yZ ([s.A,s.AtA,s.B,s.AtB.Lo,s.AtB.Hi]:List Int) (i:Nat)=some x→xP x→b.length≤2000000 →
   lX 281474976710656 s (m+1) b (i:Nat)=lX 281474976710656 s m (b++vH 9 (wT x)) ((i+1:Nat):Int):=by
  intro m i x b hi hx ho hb
  show mE _ _ _ _ _=_
  unfold mE
  rw [yP (by omega),cond_true,hx,zbs,kZ ho (by omega) (by omega),zbs,wW (by omega)]
 have e:lX 281474976710656 s 281474976710656 b (0:Int)=some (b++aU s):=by
  refine Eq.trans (step 281474976710655 0 s.A b (by omega) rfl l1 (by omega)) ?_
  refine Eq.trans (step 281474976710654 1 s.AtA _ (by omega) rfl l2 (by simp only [List.length_append];omega)) ?_
  refine Eq.trans (step 281474976710653 2 s.B _ (by omega) rfl l3 (by simp only [List.length_append];omega)) ?_
  refine Eq.trans (step 281474976710652 3 s.AtB.Lo _ (by omega) rfl l4 (by simp only [List.length_append];omega)) ?_
  refine Eq.trans (step 281474976710651 4 s.AtB.Hi _ (by omega) rfl l5 (by simp only [List.length_append];omega)) ?_
  show mE _ _ _ _ _=_
  unfold mE
  rw [yM (by omega),cond_false]
  simp [aU,uO]
 rw [e];rfl
theorem zBA {h:yF} (hl:BL h):∀ (m i:Nat) (row:List Int),(h.Threads.drop i).length<m→row.length+70 * (h.Threads.drop i).length≤100000→mO 281474976710656 h m (i:Nat) row=some (row++(h.Threads.drop i).flatMap nU):=by
 intro m
 induction m with
 | zero=>intro i row h;omega
 | succ m ih =>
  intro i row hm hr
  show JB _ _ _ _ _=_
  unfold JB
  rcases hd:h.Threads.drop i with _ | ⟨x,r⟩
  ·have:=tZ hd
   rw [yM (by omega),cond_false];simp
  ·have hi:=tQ hd
   rw [hd] at hm hr
   simp only [List.length_cons] at hm hr
   have hx:=hl.t x (nI hd)
   have hb:=XK hx
   have hnt:=hl.nt
   have h1:=(jF x.Id).2;have h2:=(jF (x.Name.length:Int)).2
   have hn:=hx.2.1
   unfold uO at h1 h2
   rw [yP (by omega),cond_true]
   simp only [w5 hd,zbs]
   rw [kZ hx.1 (by omega) (by omega),zbs]
   rw [VS (by rw [List.length_append];omega) (by omega) (by omega),zbs]
   rw [kZ hx.2.2 (by simp only [List.length_append];omega) (by omega),zbs,wW (by omega)]
   rw [show row++vH 9 (wT x.Id)++vH 9 (wT (x.Name.length:Int))++x.Name++vH 9 (wT x.Domain)=row++nU x by simp [nU,bU,uO]]
   rw [ih (i+1) _ (by rw [wZ hd];omega) (by rw [wZ hd,List.length_append];omega),wZ hd,List.flatMap_cons,List.append_assoc]
theorem zE1 {h:yF} (hl:BL h):∀ (m i:Nat) (row:List Int),(h.Domains.drop i).length<m→row.length+20 * (h.Domains.drop i).length≤100000→AI 281474976710656 h m (i:Nat) row=some (row++(h.Domains.drop i).flatMap aZ):=by
 intro m
 induction m with
 | zero=>intro i row h;omega
 | succ m ih =>
  intro i row hm hr
  show H7 _ _ _ _ _=_
  unfold H7
  rcases hd:h.Domains.drop i with _ | ⟨x,r⟩
  ·have:=tZ hd
   rw [yM (by omega),cond_false];simp
  ·have hi:=tQ hd
   rw [hd] at hm hr
   simp only [List.length_cons] at hm hr
   have hx:=hl.d x (nI hd)
   have hb:=S5 x
   have hnt:=hl.nd
   have h1:=(jF x.Id).2
   unfold uO at h1
   rw [yP (by omega),cond_true]
   simp only [w5 hd,zbs]
   rw [kZ hx.1 (by omega) (by omega),zbs]
   rw [kZ hx.2 (by simp only [List.length_append];omega) (by omega),zbs,wW (by omega)]
   rw [show row++vH 9 (wT x.Id)++vH 9 (wT x.Ppm)=row++aZ x by simp [aZ,uO]]
   rw [ih (i+1) _ (by rw [wZ hd];omega) (by rw [wZ hd,List.length_append];omega),wZ hd,List.flatMap_cons,List.append_assoc]
theorem zB6 {h:yF} (hl:BL h):∀ (m i:Nat) (row:List Int),(h.Snaps.drop i).length<m→row.length+50 * (h.Snaps.drop i).length≤100000→AR 281474976710656 h m row (i:Nat)=some (row++(h.Snaps.drop i).flatMap aU):=by
 intro m
 induction m with
 | zero=>intro i row h;omega
 | succ m ih =>
  intro i row hm hr
  show ES _ _ _ _ _=_
  unfold ES
  rcases hd:h.Snaps.drop i with _ | ⟨x,r⟩
  ·have:=tZ hd
   rw [yM (by omega),cond_false];simp
  ·have hi:=tQ hd
   rw [hd] at hm hr
   simp only [List.length_cons] at hm hr
   have hx:=hl.s x (nI hd)
   have hb:=UU x
   have hnt:=hl.ns
   rw [yP (by omega),cond_true]
   simp only [w5 hd,zbs]
   rw [S6 (by omega) hx,zbs,wW (by omega)]
   rw [ih (i+1) _ (by rw [wZ hd];omega) (by rw [wZ hd,List.length_append];omega),wZ hd,List.flatMap_cons,List.append_assoc]
theorem zAo {h:yF} (hl:BL h):AK 281474976710656 h=some (hdB h):=by
 have h1:=KY (f:=nU) (l:=h.Threads) fun x hx=>XK (hl.t x hx)
 have h2:=KY (f:=aZ) (l:=h.Domains) fun x hx=>S5 x
 have h3:=KY (f:=aU) (l:=h.Snaps) fun x hx=>UU x
 have k1:=(jF (h.Threads.length:Int)).2;have k2:=(jF (h.Domains.length:Int)).2;have k3:=(jF (h.Snaps.length:Int)).2
 have q1:=hl.nt;have q2:=hl.nd;have q3:=hl.ns
 unfold AK
 rw [kZ (by unfold xP;omega) (by simp) (by omega),zbs,List.nil_append]
 change (((mO 281474976710656 h 281474976710656 (0:Int) (uO (h.Threads.length:Int))).bind fun _=>_)=_)
 have e1:=zBA hl 281474976710656 0 (uO (h.Threads.length:Int)) (by simp;omega) (by simp;omega)
 rw [List.drop_zero] at e1
 rw [show mO 281474976710656 h 281474976710656 (0:Int) (uO (h.Threads.length:Int))=_ from e1,zbs,kZ (by unfold xP;omega) (by simp only [List.length_append];omega) (by omega),zbs]
 have e2:=zE1 hl 281474976710656 0 (uO (h.Threads.length:Int)++h.Threads.flatMap nU++uO (h.Domains.length:Int)) (by simp;omega) (by simp only [List.length_append,List.drop_zero];omega)
 rw [List.drop_zero] at e2
 rw [show AI 281474976710656 h 281474976710656 (0:Int) (uO (h.Threads.length:Int)++h.Threads.flatMap nU++vH 9 (wT (h.Domains.length:Int)))=_ from e2,zbs,kZ (by unfold xP;omega) (by simp only [List.length_append];omega) (by omega),zbs]
 have e3:=zB6 hl 281474976710656 0 (uO (h.Threads.length:Int)++h.Threads.flatMap nU++uO (h.Domains.length:Int)++h.Domains.flatMap aZ++uO (h.Snaps.length:Int)) (by simp;omega) (by simp only [List.length_append,List.drop_zero];omega)
 rw [List.drop_zero] at e3
 rw [show AR 281474976710656 h 281474976710656 (uO (h.Threads.length:Int)++h.Threads.flatMap nU++uO (h.Domains.length:Int)++h.Domains.flatMap aZ++vH 9 (wT (h.Snaps.length:Int))) (0:Int)=_ from e3];rfl
end Go.Ab
