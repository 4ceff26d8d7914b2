/- Plain laws of the functions w6 this seat's, laid anew from another seat's text. No conditions but those that the theorems name. -/
import Derived.Test.YtoeengmnmhhpgaaP15xD
import Derived.Test.YtoeengmnmhhpgaaB15a
import Derived.Test.YtoeengmnmhhpgaaB15b
import Derived.Test.YtoeengmnmhhpgaaB15c
import Derived.Test.YtoeengmnmhhpgaaB15d
import Derived.Test.YtoeengmnmhhpgaaB15t
import Derived.Test.YtoeengmnmhhpgaaB15m
import Derived.Test.YtoeengmnmhhpgaaB15n
namespace Go.Ab
open Go
set_option linter.unusedVariables false
def T2 (l:List zQ):Prop:=l.length≤140737488355328∧∀ p∈l,p.Events.length≤140737488355328∧∀ e∈p.Events,e.Stack.length≤140737488355328
theorem UM {a b:List zQ} (ha:T2 a):m7 281474976710656 a b=some (decide (a=b)):=by
 unfold m7
 by_cases hab:a.length=b.length
 ·rw [x8 (by omega),cond_false,mD (a:=a) (b:=b) (fun n i=>B4 281474976710656 a b n i) hab ha.1]
  ·rw [zbs]
   by_cases he:a=b
   ·rw [if_pos he,yR he]
   ·rw [if_neg he,yO he]
  ·intro n i hi
   show lG _ _ _ _ _=_
   unfold lG
   rw [yO (by omega),cond_false]
  ·intro n i x y r r2 hx hy hi
   show lG _ _ _ _ _=_
   unfold lG
   have hm:=ha.2 x (cU hx)
   have hl:=ha.1
   rw [yR (by omega),cond_true,w9 hx,zbs,w9 hy,zbs,vC (by omega),zC0 hm.1 hm.2,zbs]
   by_cases he:x=y
   ·rw [if_pos he,yR he];rfl
   ·rw [if_neg he,yO he];rfl
 ·rw [wA (by omega),yO (fun e=>hab (by rw [e]))];rfl
theorem zDj {a b:zU} (h1:a.Threads.length≤140737488355328) (h2:a.Domains.length≤140737488355328) (h3:a.Snaps.length≤140737488355328):m8 281474976710656 a b=some (decide (a.Threads=b.Threads∧a.Domains=b.Domains∧a.Snaps=b.Snaps)):=by
 unfold m8
 by_cases hl:a.Threads.length=b.Threads.length∧a.Domains.length=b.Domains.length∧a.Snaps.length=b.Snaps.length
 ·obtain ⟨l1,l2,l3⟩:=hl
  rw [x8 (show ((a.Threads.length:Nat):Int)=(b.Threads.length:Nat) by omega),x8 (show ((a.Domains.length:Nat):Int)=(b.Domains.length:Nat) by omega),x8 (show ((a.Snaps.length:Nat):Int)=(b.Snaps.length:Nat) by omega)]
  simp only [Bool.or_self,cond_false]
  rw [mD (a:=a.Threads) (b:=b.Threads) (fun n i=>AX 281474976710656 a b n i) l1 h1,zbs]
  ·by_cases k1:a.Threads=b.Threads
   ·rw [if_pos k1]
    simp only
    rw [mD (a:=a.Domains) (b:=b.Domains) (fun n i=>BF 281474976710656 a b n i) l2 h2,zbs]
    ·by_cases k2:a.Domains=b.Domains
     ·rw [if_pos k2]
      simp only
      rw [mD (a:=a.Snaps) (b:=b.Snaps) (fun n i=>BK 281474976710656 a b n i) l3 h3,zbs]
      ·by_cases k3:a.Snaps=b.Snaps
       ·rw [if_pos k3];simp [k1,k2,k3]
       ·rw [if_neg k3];simp [k3]
      ·intro n i hi
       show g6 _ _ _ _ _=_
       unfold g6
       rw [yO (by omega),cond_false]
      ·intro n i x y r r2 hx hy hi
       show g6 _ _ _ _ _=_
       unfold g6
       rw [yR (by omega),cond_true,w9 hx,zbs,w9 hy,zbs,vC (by omega)]
       by_cases he:x=y
       ·rw [if_pos he,yR he];rfl
       ·rw [if_neg he,yO he];rfl
     ·rw [if_neg k2];simp [k2]
    ·intro n i hi
     show lO _ _ _ _ _=_
     unfold lO
     rw [yO (by omega),cond_false]
    ·intro n i x y r r2 hx hy hi
     show lO _ _ _ _ _=_
     unfold lO
     rw [yR (by omega),cond_true,w9 hx,zbs,w9 hy,zbs,vC (by omega)]
     by_cases he:x=y
     ·rw [if_pos he,yR he];rfl
     ·rw [if_neg he,yO he];rfl
   ·rw [if_neg k1];simp [k1]
  ·intro n i hi
   show gX _ _ _ _ _=_
   unfold gX
   rw [yO (by omega),cond_false]
  ·intro n i x y r r2 hx hy hi
   show gX _ _ _ _ _=_
   unfold gX
   rw [yR (by omega),cond_true,w9 hx,zbs,w9 hy,zbs,vC (by omega)]
   by_cases he:x=y
   ·rw [if_pos he,yR he];rfl
   ·rw [if_neg he,yO he];rfl
 ·rw [show ((((a.Threads.length:Nat):Int) != ((b.Threads.length:Nat):Int))||((((a.Domains.length:Nat):Int) != ((b.Domains.length:Nat):Int))||(((a.Snaps.length:Nat):Int) != ((b.Snaps.length:Nat):Int))))=true by simp;omega]
  rw [yO (fun e=>hl ⟨by rw [e.1],by rw [e.2.1],by rw [e.2.2]⟩)];rfl
end Go.Ab
