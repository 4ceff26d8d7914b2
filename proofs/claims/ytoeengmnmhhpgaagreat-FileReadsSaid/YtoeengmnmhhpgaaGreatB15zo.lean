/- Plain laws of the functions uV this seat's, laid anew from another seat's text. No conditions but those that the theorems name. -/
import Derived.Test.YtoeengmnmhhpgaaGreatP15zxD
import Derived.Test.YtoeengmnmhhpgaaGreatB15za
import Derived.Test.YtoeengmnmhhpgaaGreatB15zb
import Derived.Test.YtoeengmnmhhpgaaGreatB15zc
import Derived.Test.YtoeengmnmhhpgaaGreatB15zd
import Derived.Test.YtoeengmnmhhpgaaGreatB15zt
import Derived.Test.YtoeengmnmhhpgaaGreatB15zm
import Derived.Test.YtoeengmnmhhpgaaGreatB15zn
namespace Go.Ab
open Go
set_option linter.unusedVariables false
def YN (l:List z8):Prop:=l.length≤140737488355328∧∀ p∈l,p.Events.length≤140737488355328∧∀ e∈p.Events,e.Stack.length≤140737488355328
theorem zAi {a b:List z8} (ha:YN a):GC 281474976710656 a b=some (decide (a=b)):=by
 unfold GC
 by_cases hab:a.length=b.length
 ·rw [wF (by omega),cond_false,BQ (a:=a) (b:=b) (fun n i=>HB 281474976710656 a b n i) hab ha.1]
  ·rw [zbs]
   by_cases he:a=b
   ·rw [if_pos he,yP he]
   ·rw [if_neg he,yM he]
  ·intro n i hi
   show iW _ _ _ _ _=_
   unfold iW
   rw [yM (by omega),cond_false]
  ·intro n i x y r r2 hx hy hi
   show iW _ _ _ _ _=_
   unfold iW
   have hm:=ha.2 x (nI hx)
   have hl:=ha.1
   rw [yP (by omega),cond_true,w5 hx,zbs,w5 hy,zbs,wW (by omega),zB9 hm.1 hm.2,zbs]
   by_cases he:x=y
   ·rw [if_pos he,yP he];rfl
   ·rw [if_neg he,yM he];rfl
 ·rw [wE (by omega),yM (fun e=>hab (by rw [e]))];rfl
theorem zBT {a b:yF} (h1:a.Threads.length≤140737488355328) (h2:a.Domains.length≤140737488355328) (h3:a.Snaps.length≤140737488355328):AA 281474976710656 a b=some (decide (a.Threads=b.Threads∧a.Domains=b.Domains∧a.Snaps=b.Snaps)):=by
 unfold AA
 by_cases hl:a.Threads.length=b.Threads.length∧a.Domains.length=b.Domains.length∧a.Snaps.length=b.Snaps.length
 ·obtain ⟨l1,l2,l3⟩:=hl
  rw [wF (show ((a.Threads.length:Nat):Int)=(b.Threads.length:Nat) by omega),wF (show ((a.Domains.length:Nat):Int)=(b.Domains.length:Nat) by omega),wF (show ((a.Snaps.length:Nat):Int)=(b.Snaps.length:Nat) by omega)]
  simp only [Bool.or_self,cond_false]
  rw [BQ (a:=a.Threads) (b:=b.Threads) (fun n i=>CY 281474976710656 a b n i) l1 h1,zbs]
  ·by_cases k1:a.Threads=b.Threads
   ·rw [if_pos k1]
    simp only
    rw [BQ (a:=a.Domains) (b:=b.Domains) (fun n i=>GX 281474976710656 a b n i) l2 h2,zbs]
    ·by_cases k2:a.Domains=b.Domains
     ·rw [if_pos k2]
      simp only
      rw [BQ (a:=a.Snaps) (b:=b.Snaps) (fun n i=>D1 281474976710656 a b n i) l3 h3,zbs]
      ·by_cases k3:a.Snaps=b.Snaps
       ·rw [if_pos k3];simp [k1,k2,k3]
       ·rw [if_neg k3];simp [k3]
      ·intro n i hi
       show oC _ _ _ _ _=_
       unfold oC
       rw [yM (by omega),cond_false]
      ·intro n i x y r r2 hx hy hi
       show oC _ _ _ _ _=_
       unfold oC
       rw [yP (by omega),cond_true,w5 hx,zbs,w5 hy,zbs,wW (by omega)]
       by_cases he:x=y
       ·rw [if_pos he,yP he];rfl
       ·rw [if_neg he,yM he];rfl
     ·rw [if_neg k2];simp [k2]
    ·intro n i hi
     show oK _ _ _ _ _=_
     unfold oK
     rw [yM (by omega),cond_false]
    ·intro n i x y r r2 hx hy hi
     show oK _ _ _ _ _=_
     unfold oK
     rw [yP (by omega),cond_true,w5 hx,zbs,w5 hy,zbs,wW (by omega)]
     by_cases he:x=y
     ·rw [if_pos he,yP he];rfl
     ·rw [if_neg he,yM he];rfl
   ·rw [if_neg k1];simp [k1]
  ·intro n i hi
   show iB _ _ _ _ _=_
   unfold iB
   rw [yM (by omega),cond_false]
  ·intro n i x y r r2 hx hy hi
   show iB _ _ _ _ _=_
   unfold iB
   rw [yP (by omega),cond_true,w5 hx,zbs,w5 hy,zbs,wW (by omega)]
   by_cases he:x=y
   ·rw [if_pos he,yP he];rfl
   ·rw [if_neg he,yM he];rfl
 ·rw [show ((((a.Threads.length:Nat):Int) != ((b.Threads.length:Nat):Int))||((((a.Domains.length:Nat):Int) != ((b.Domains.length:Nat):Int))||(((a.Snaps.length:Nat):Int) != ((b.Snaps.length:Nat):Int))))=true by simp;omega]
  rw [yM (fun e=>hl ⟨by rw [e.1],by rw [e.2.1],by rw [e.2.2]⟩)];rfl
end Go.Ab
