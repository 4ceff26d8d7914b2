/- Plain laws of the functions w6 this seat's, laid anew from another seat's text. No conditions but those that the theorems name. -/
import Derived.Test.YtoeengmnmhhpgaaP15xD
import Derived.Test.YtoeengmnmhhpgaaB15a
import Derived.Test.YtoeengmnmhhpgaaB15b
namespace Go.Ab
open Go
set_option linter.unusedVariables false
def dI (t:xJ):Prop:=t.Id<0∨t.Id>1000000000000000∨t.Domain<0∨t.Domain≥8
instance decThreadBad {t:xJ}:Decidable (dI t):=inferInstanceAs (Decidable (_∨_))
def cE (t:xJ):Int:=if dI t then 2 else uO t.Name
theorem YG {t:xJ}:(decide (t.Id<(0:Int))||(decide (t.Id>(1000000000000000:Int))||(decide (t.Domain<(0:Int))||decide (t.Domain≥(8:Int)))))=decide (dI t):=by
 by_cases h:dI t
 ·rw [yR h];unfold dI at h;simpa using h
 ·rw [yO h];unfold dI at h;simp;omega
theorem V5 {t:xJ}:A3 281474976710656 t=some (cE t):=by
 unfold A3 cE
 rw [YG,CY]
 by_cases h:dI t
 ·rw [yR h,if_pos h];rfl
 ·rw [yO h,if_neg h];rfl
end Go.Ab
