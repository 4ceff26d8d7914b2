/- Plain laws of the functions uS this seat's, laid anew from another seat's text. No conditions but those that the theorems name. -/
import Derived.Test.YtoeengmnmhhpgaaGreatP15zxD
import Derived.Test.YtoeengmnmhhpgaaGreatR15z
import Derived.Test.YtoeengmnmhhpgaaGreatB15za
import Derived.Test.YtoeengmnmhhpgaaGreatB15zb
import Derived.Test.YtoeengmnmhhpgaaGreatB15zc
import Derived.Test.YtoeengmnmhhpgaaGreatB15zd
import Derived.Test.YtoeengmnmhhpgaaGreatB15ze
import Derived.Test.YtoeengmnmhhpgaaGreatB15zf
import Derived.Test.YtoeengmnmhhpgaaGreatB15zg
import Derived.Test.YtoeengmnmhhpgaaGreatB15zh
import Derived.Test.YtoeengmnmhhpgaaGreatB15zi
import Derived.Test.YtoeengmnmhhpgaaGreatB15zj
import Derived.Test.YtoeengmnmhhpgaaGreatB15zk
import Derived.Test.YtoeengmnmhhpgaaGreatB15zt
import Derived.Test.YtoeengmnmhhpgaaGreatB15zm
import Derived.Test.YtoeengmnmhhpgaaGreatB15zn
import Derived.Test.YtoeengmnmhhpgaaGreatB15zo
import Derived.Test.YtoeengmnmhhpgaaGreatC15za
import Derived.Test.YtoeengmnmhhpgaaGreatC15zb
namespace Go.Ab
open Go
set_option linter.unusedVariables false
theorem zCV {t:xI} (h:bL t=0):r7 t:=by
 unfold bL at h
 split at h
 ·omega
 ·rename_i hb
  unfold d7 at hb;unfold r7 xM;refine ⟨by omega,?_,by omega⟩;unfold tC at h
  split at h
  ·omega
  ·rename_i hn;simp only [not_or] at hn;omega
theorem HG {t:xI} (h:r7 t):(jW t).length<=70:=by
 unfold jW aM;have h1:=(uZ t.Id).2;have h2:=(uZ t.Domain).2;have h3:=(uZ (t.Name.length:Int)).2;unfold vF at *;simp only [zla]
 have:=h.2.1
 omega
theorem KF (d:xA):(k9 d).length<=20:=by
 unfold k9;have h1:=(uZ d.Id).2;have h2:=(uZ d.Ppm).2;simp only [zla];omega
theorem g8 (s:yZ):(kP s).length<=50:=by
 unfold kP;have h1:=(uZ s.A).2;have h2:=(uZ s.AtA).2;have h3:=(uZ s.B).2;have h4:=(uZ s.AtB.Lo).2;have h5:=(uZ s.AtB.Hi).2;simp only [zla];omega
theorem dH {α:Type} {f:α->List Int} {m:Nat}:∀ {l:List α},(∀ x∈l,(f x).length<=m)->(l.flatMap f).length<=m * l.length
 | [],_=>by simp
 | a::r,h=>by
  have h1:=h a (by simp);have h2:=dH (l:=r) fun x hx=>h x (by simp [hx])
  simp only [List.flatMap_cons,zla,zlc,Nat.mul_add];omega
theorem RV {h:yB} (hl:nY h):(hdB h).length<=20000:=by
 unfold hdB;have h1:=dH (f:=jW) (l:=h.Threads) fun x hx=>HG (hl.t x hx)
 have h2:=dH (f:=k9) (l:=h.Domains) fun x hx=>KF x
 have h3:=dH (f:=kP) (l:=h.Snaps) fun x hx=>g8 x
 have k1:=(uZ (h.Threads.length:Int)).2;have k2:=(uZ (h.Domains.length:Int)).2;have k3:=(uZ (h.Snaps.length:Int)).2;have q1:=hl.nt;have q2:=hl.nd;have q3:=hl.ns;simp only [zla];omega
theorem UT {b:List Int} {s:yZ} (hl:b.length<=1000000) (hs:aN s):lO 281474976710656 b s=some (b++kP s):=by
 obtain ⟨l1,l2,l3,l4,l5⟩:=hs;have h1:=(uZ s.A).2;have h2:=(uZ s.AtA).2;have h3:=(uZ s.B).2;have h4:=(uZ s.AtB.Lo).2;unfold vF at *;unfold lO;have step:∀ (m:Nat) (i:Nat) (x:Int) (b:List Int),i<5->yX ([s.A,s.AtA,s.B,s.AtB.Lo,s.AtB.Hi]:List Int) (i:Nat)=some x->xM x->b.length<=2000000 ->
   mU 281474976710656 s (m+1) b (i:Nat)=mU 281474976710656 s m (b++vJ 9 (wT x)) ((i+1:Nat):Int):=by
  intro m i x b hi hx ho hb;show mO _ _ _ _ _=_;unfold mO;rw [yN (by omega),cond_true,hx,zbs,pA ho (by omega) (by omega),zbs,wX (by omega)]
 have e:mU 281474976710656 s 281474976710656 b (0:Int)=some (b++kP s):=by
  refine Eq.trans (step 281474976710655 0 s.A b (by omega) rfl l1 (by omega)) ?_;refine Eq.trans (step 281474976710654 1 s.AtA _ (by omega) rfl l2 (by simp only [zla];omega)) ?_;refine Eq.trans (step 281474976710653 2 s.B _ (by omega) rfl l3 (by simp only [zla];omega)) ?_;refine Eq.trans (step 281474976710652 3 s.AtB.Lo _ (by omega) rfl l4 (by simp only [zla];omega)) ?_;refine Eq.trans (step 281474976710651 4 s.AtB.Hi _ (by omega) rfl l5 (by simp only [zla];omega)) ?_;show mO _ _ _ _ _=_;unfold mO;rw [yP (by omega),cond_false];simp [kP,vF]
 rw [e];rfl
theorem zE9 {h:yB} (hl:nY h):∀ (m i:Nat) (row:List Int),(h.Threads.drop i).length<m->row.length+70 * (h.Threads.drop i).length<=100000->mS 281474976710656 h m (i:Nat) row=some (row++(h.Threads.drop i).flatMap jW):=by
 intro m
 induction m with
 | zero=>intro i row h;omega
 | succ m ih =>
  intro i row hm hr;show JR _ _ _ _ _=_;unfold JR;rcases hd:h.Threads.drop i with _ | ⟨x,r⟩
  ·have:=qC hd
   rw [yP (by omega),cond_false];simp
  ·have hi:=tZ hd;rw [hd] at hm hr;simp only [zlc] at hm hr;have hx:=hl.t x (nQ hd);have hb:=HG hx;have hnt:=hl.nt;have h1:=(uZ x.Id).2;have h2:=(uZ (x.Name.length:Int)).2;have hn:=hx.2.1;unfold vF at h1 h2;rw [yN (by omega),cond_true];simp only [vE hd,zbs];rw [pA hx.1 (by omega) (by omega),zbs];rw [YJ (by rw [zla];omega) (by omega) (by omega),zbs];rw [pA hx.2.2 (by simp only [zla];omega) (by omega),zbs,wX (by omega)];rw [show row++vJ 9 (wT x.Id)++vJ 9 (wT (x.Name.length:Int))++x.Name++vJ 9 (wT x.Domain)=row++jW x by simp [jW,aM,vF]];rw [ih (i+1) _ (by rw [w6 hd];omega) (by rw [w6 hd,zla];omega),w6 hd,List.flatMap_cons,List.append_assoc]
theorem zIz {h:yB} (hl:nY h):∀ (m i:Nat) (row:List Int),(h.Domains.drop i).length<m->row.length+20 * (h.Domains.drop i).length<=100000->CY 281474976710656 h m (i:Nat) row=some (row++(h.Domains.drop i).flatMap k9):=by
 intro m
 induction m with
 | zero=>intro i row h;omega
 | succ m ih =>
  intro i row hm hr;show JY _ _ _ _ _=_;unfold JY;rcases hd:h.Domains.drop i with _ | ⟨x,r⟩
  ·have:=qC hd
   rw [yP (by omega),cond_false];simp
  ·have hi:=tZ hd;rw [hd] at hm hr;simp only [zlc] at hm hr;have hx:=hl.d x (nQ hd);have hb:=KF x;have hnt:=hl.nd;have h1:=(uZ x.Id).2;unfold vF at h1;rw [yN (by omega),cond_true];simp only [vE hd,zbs];rw [pA hx.1 (by omega) (by omega),zbs];rw [pA hx.2 (by simp only [zla];omega) (by omega),zbs,wX (by omega)];rw [show row++vJ 9 (wT x.Id)++vJ 9 (wT x.Ppm)=row++k9 x by simp [k9,vF]];rw [ih (i+1) _ (by rw [w6 hd];omega) (by rw [w6 hd,zla];omega),w6 hd,List.flatMap_cons,List.append_assoc]
theorem zFH {h:yB} (hl:nY h):∀ (m i:Nat) (row:List Int),(h.Snaps.drop i).length<m->row.length+50 * (h.Snaps.drop i).length<=100000->DQ 281474976710656 h m row (i:Nat)=some (row++(h.Snaps.drop i).flatMap kP):=by
 intro m
 induction m with
 | zero=>intro i row h;omega
 | succ m ih =>
  intro i row hm hr;show JL _ _ _ _ _=_;unfold JL;rcases hd:h.Snaps.drop i with _ | ⟨x,r⟩
  ·have:=qC hd
   rw [yP (by omega),cond_false];simp
  ·have hi:=tZ hd;rw [hd] at hm hr;simp only [zlc] at hm hr;have hx:=hl.s x (nQ hd);have hb:=g8 x;have hnt:=hl.ns;rw [yN (by omega),cond_true];simp only [vE hd,zbs];rw [UT (by omega) hx,zbs,wX (by omega)];rw [ih (i+1) _ (by rw [w6 hd];omega) (by rw [w6 hd,zla];omega),w6 hd,List.flatMap_cons,List.append_assoc]
theorem ZK {h:yB} (hl:nY h):B7 281474976710656 h=some (hdB h):=by
 have h1:=dH (f:=jW) (l:=h.Threads) fun x hx=>HG (hl.t x hx)
 have h2:=dH (f:=k9) (l:=h.Domains) fun x hx=>KF x
 have h3:=dH (f:=kP) (l:=h.Snaps) fun x hx=>g8 x
 have k1:=(uZ (h.Threads.length:Int)).2;have k2:=(uZ (h.Domains.length:Int)).2;have k3:=(uZ (h.Snaps.length:Int)).2;have q1:=hl.nt;have q2:=hl.nd;have q3:=hl.ns;unfold B7;rw [pA (by unfold xM;omega) (by simp) (by omega),zbs,List.nil_append]
 change (((mS 281474976710656 h 281474976710656 (0:Int) (vF (h.Threads.length:Int))).bind fun _=>_)=_)
 have e1:=zE9 hl 281474976710656 0 (vF (h.Threads.length:Int)) (by simp;omega) (by simp;omega);rw [zdz] at e1;rw [show mS 281474976710656 h 281474976710656 (0:Int) (vF (h.Threads.length:Int))=_ from e1,zbs,pA (by unfold xM;omega) (by simp only [zla];omega) (by omega),zbs];have e2:=zIz hl 281474976710656 0 (vF (h.Threads.length:Int)++h.Threads.flatMap jW++vF (h.Domains.length:Int)) (by simp;omega) (by simp only [zla,zdz];omega);rw [zdz] at e2;rw [show CY 281474976710656 h 281474976710656 (0:Int) (vF (h.Threads.length:Int)++h.Threads.flatMap jW++vJ 9 (wT (h.Domains.length:Int)))=_ from e2,zbs,pA (by unfold xM;omega) (by simp only [zla];omega) (by omega),zbs];have e3:=zFH hl 281474976710656 0 (vF (h.Threads.length:Int)++h.Threads.flatMap jW++vF (h.Domains.length:Int)++h.Domains.flatMap k9++vF (h.Snaps.length:Int)) (by simp;omega) (by simp only [zla,zdz];omega);rw [zdz] at e3;rw [show DQ 281474976710656 h 281474976710656 (vF (h.Threads.length:Int)++h.Threads.flatMap jW++vF (h.Domains.length:Int)++h.Domains.flatMap k9++vJ 9 (wT (h.Snaps.length:Int))) (0:Int)=_ from e3];rfl
theorem XW {b:List Int} {s:yZ} (hl:b.length<=1000000) (hs:aN s):B1 281474976710656 b s=some (b++kP s):=by
 obtain ⟨l1,l2,l3,l4,l5⟩:=hs;have h1:=(uZ s.A).2;have h2:=(uZ s.AtA).2;have h3:=(uZ s.B).2;have h4:=(uZ s.AtB.Lo).2;unfold vF at *;unfold B1;simp only [jM l1 (show b.length<=140737488355000 by omega) (show 9<281474976710656 by omega),zbs];rw [jM l2 (by simp only [zla];omega) (by omega),zbs,jM l3 (by simp only [zla];omega) (by omega),zbs,jM l4 (by simp only [zla];omega) (by omega),zbs,jM l5 (by simp only [zla];omega) (by omega),zbs];simp [kP,vF]
theorem zHo {h:yB} (hl:nY h):∀ (m i:Nat) (row:List Int),(h.Threads.drop i).length<m->row.length+70 * (h.Threads.drop i).length<=100000->oR 281474976710656 h m (i:Nat) row=some (row++(h.Threads.drop i).flatMap jW):=by
 intro m
 induction m with
 | zero=>intro i row h;omega
 | succ m ih =>
  intro i row hm hr;show EK _ _ _ _ _=_;unfold EK;rcases hd:h.Threads.drop i with _ | ⟨x,r⟩
  ·have:=qC hd
   rw [yP (by omega),cond_false];simp
  ·have hi:=tZ hd;rw [hd] at hm hr;simp only [zlc] at hm hr;have hx:=hl.t x (nQ hd);have hb:=HG hx;have hnt:=hl.nt;have h1:=(uZ x.Id).2;have h2:=(uZ (x.Name.length:Int)).2;have hn:=hx.2.1;unfold vF at h1 h2;rw [yN (by omega),cond_true];simp only [vE hd,zbs];rw [jM hx.1 (by omega) (by omega),zbs];rw [X4 (by rw [zla];omega) (by omega) (by omega) (by omega),zbs];rw [jM hx.2.2 (by simp only [zla];omega) (by omega),zbs,wX (by omega)];rw [show row++vJ 9 (wT x.Id)++vJ 9 (wT (x.Name.length:Int))++x.Name++vJ 9 (wT x.Domain)=row++jW x by simp [jW,aM,vF]];rw [ih (i+1) _ (by rw [w6 hd];omega) (by rw [w6 hd,zla];omega),w6 hd,List.flatMap_cons,List.append_assoc]
theorem zHK {h:yB} (hl:nY h):∀ (m i:Nat) (row:List Int),(h.Domains.drop i).length<m->row.length+20 * (h.Domains.drop i).length<=100000->AZ 281474976710656 h m (i:Nat) row=some (row++(h.Domains.drop i).flatMap k9):=by
 intro m
 induction m with
 | zero=>intro i row h;omega
 | succ m ih =>
  intro i row hm hr;show GO _ _ _ _ _=_;unfold GO;rcases hd:h.Domains.drop i with _ | ⟨x,r⟩
  ·have:=qC hd
   rw [yP (by omega),cond_false];simp
  ·have hi:=tZ hd;rw [hd] at hm hr;simp only [zlc] at hm hr;have hx:=hl.d x (nQ hd);have hb:=KF x;have hnt:=hl.nd;have h1:=(uZ x.Id).2;unfold vF at h1;rw [yN (by omega),cond_true];simp only [vE hd,zbs];rw [jM hx.1 (by omega) (by omega),zbs];rw [jM hx.2 (by simp only [zla];omega) (by omega),zbs,wX (by omega)];rw [show row++vJ 9 (wT x.Id)++vJ 9 (wT x.Ppm)=row++k9 x by simp [k9,vF]];rw [ih (i+1) _ (by rw [w6 hd];omega) (by rw [w6 hd,zla];omega),w6 hd,List.flatMap_cons,List.append_assoc]
theorem zCN {h:yB} (hl:nY h):∀ (m i:Nat) (row:List Int),(h.Snaps.drop i).length<m->row.length+50 * (h.Snaps.drop i).length<=100000->CE 281474976710656 h m (i:Nat) row=some (row++(h.Snaps.drop i).flatMap kP):=by
 intro m
 induction m with
 | zero=>intro i row h;omega
 | succ m ih =>
  intro i row hm hr;show KP _ _ _ _ _=_;unfold KP;rcases hd:h.Snaps.drop i with _ | ⟨x,r⟩
  ·have:=qC hd
   rw [yP (by omega),cond_false];simp
  ·have hi:=tZ hd;rw [hd] at hm hr;simp only [zlc] at hm hr;have hx:=hl.s x (nQ hd);have hb:=g8 x;have hnt:=hl.ns;rw [yN (by omega),cond_true];simp only [vE hd,zbs];rw [XW (by omega) hx,zbs,wX (by omega)];rw [ih (i+1) _ (by rw [w6 hd];omega) (by rw [w6 hd,zla];omega),w6 hd,List.flatMap_cons,List.append_assoc]
theorem zBo {h:yB} (hl:nY h):GK 281474976710656 h=some (hdB h):=by
 have h1:=dH (f:=jW) (l:=h.Threads) fun x hx=>HG (hl.t x hx)
 have h2:=dH (f:=k9) (l:=h.Domains) fun x hx=>KF x
 have h3:=dH (f:=kP) (l:=h.Snaps) fun x hx=>g8 x
 have k1:=(uZ (h.Threads.length:Int)).2;have k2:=(uZ (h.Domains.length:Int)).2;have k3:=(uZ (h.Snaps.length:Int)).2;have q1:=hl.nt;have q2:=hl.nd;have q3:=hl.ns;unfold GK;rw [jM (by unfold xM;omega) (by simp) (by omega),zbs,List.nil_append]
 change (((oR 281474976710656 h 281474976710656 (0:Int) (vF (h.Threads.length:Int))).bind fun _=>_)=_)
 have e1:=zHo hl 281474976710656 0 (vF (h.Threads.length:Int)) (by simp;omega) (by simp;omega);rw [zdz] at e1;rw [show oR 281474976710656 h 281474976710656 (0:Int) (vF (h.Threads.length:Int))=_ from e1,zbs,jM (by unfold xM;omega) (by simp only [zla];omega) (by omega),zbs];have e2:=zHK hl 281474976710656 0 (vF (h.Threads.length:Int)++h.Threads.flatMap jW++vF (h.Domains.length:Int)) (by simp;omega) (by simp only [zla,zdz];omega);rw [zdz] at e2;rw [show AZ 281474976710656 h 281474976710656 (0:Int) (vF (h.Threads.length:Int)++h.Threads.flatMap jW++vJ 9 (wT (h.Domains.length:Int)))=_ from e2,zbs,jM (by unfold xM;omega) (by simp only [zla];omega) (by omega),zbs];have e3:=zCN hl 281474976710656 0 (vF (h.Threads.length:Int)++h.Threads.flatMap jW++vF (h.Domains.length:Int)++h.Domains.flatMap k9++vF (h.Snaps.length:Int)) (by simp;omega) (by simp only [zla,zdz];omega);rw [zdz] at e3;rw [show CE 281474976710656 h 281474976710656 (0:Int) (vF (h.Threads.length:Int)++h.Threads.flatMap jW++vF (h.Domains.length:Int)++h.Domains.flatMap k9++vJ 9 (wT (h.Snaps.length:Int)))=_ from e3];rfl
end Go.Ab
