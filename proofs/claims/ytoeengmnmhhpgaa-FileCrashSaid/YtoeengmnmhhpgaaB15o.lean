/- Plain laws of the functions wU this seat's, laid anew from another seat's text. No conditions but those that the theorems name. -/
import Derived.Test.YtoeengmnmhhpgaaP15xD
import Derived.Test.YtoeengmnmhhpgaaB15a
import Derived.Test.YtoeengmnmhhpgaaB15b
import Derived.Test.YtoeengmnmhhpgaaB15c
import Derived.Test.YtoeengmnmhhpgaaB15d
import Derived.Test.YtoeengmnmhhpgaaB15t
import Derived.Test.YtoeengmnmhhpgaaB15m
import Derived.Test.YtoeengmnmhhpgaaB15n
namespace Go.Ab
open Go
set_option linter.unusedVariables false
def QG (l:List zQ):Prop:=l.length≤140737488355328∧∀ p∈l,p.Events.length≤140737488355328∧∀ e∈p.Events,e.Stack.length≤140737488355328
theorem U2 {a b:List zQ} (ha:QG a):m8 281474976710656 a b=some (decide (a=b)):=by
 unfold m8
 by_cases hab:a.length=b.length
 ·rw [x8 (by omega),cond_false,NF (a:=a) (b:=b) (fun n i=>C3 281474976710656 a b n i) hab ha.1]
  ·rw [zbs]
   by_cases he:a=b
   ·rw [if_pos he,yU he]
   ·rw [if_neg he,yO he]
  ·intro n i hi
   show i6 _ _ _ _ _=_
   unfold i6
   rw [yO (by omega),cond_false]
  ·intro n i x y r r2 hx hy hi
   show i6 _ _ _ _ _=_
   unfold i6
   have hm:=ha.2 x (dC hx)
   have hl:=ha.1
   rw [yU (by omega),cond_true,vS hx,zbs,vS hy,zbs,vK (by omega),zD0 hm.1 hm.2,zbs]
   by_cases he:x=y
   ·rw [if_pos he,yU he];rfl
   ·rw [if_neg he,yO he];rfl
 ·rw [wA (by omega),yO (fun e=>hab (by rw [e]))];rfl
end Go.Ab
