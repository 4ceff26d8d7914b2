/- Plain laws of the functions wU this seat's, laid anew from another seat's text. No conditions but those that the theorems name. -/
import Derived.Test.YtoeengmnmhhpgaaP15xD
import Derived.Test.YtoeengmnmhhpgaaB15a
import Derived.Test.YtoeengmnmhhpgaaB15b
namespace Go.Ab
open Go
set_option linter.unusedVariables false
def fU (t:xH):Prop:=t.Id<0∨t.Id>1000000000000000∨t.Domain<0∨t.Domain≥8
instance decThreadBad {t:xH}:Decidable (fU t):=inferInstanceAs (Decidable (_∨_))
def cW (t:xH):Int:=if fU t then 2 else uL t.Name
theorem zDt {t:xH}:(decide (t.Id<(0:Int))||(decide (t.Id>(1000000000000000:Int))||(decide (t.Domain<(0:Int))||decide (t.Domain≥(8:Int)))))=decide (fU t):=by
 by_cases h:fU t
 ·rw [yU h];unfold fU at h;simpa using h
 ·rw [yO h];unfold fU at h;simp;omega
theorem Y0 {t:xH}:AK 281474976710656 t=some (cW t):=by
 unfold AK cW
 rw [zDt,BX]
 by_cases h:fU t
 ·rw [yU h,if_pos h];rfl
 ·rw [yO h,if_neg h];rfl
end Go.Ab
