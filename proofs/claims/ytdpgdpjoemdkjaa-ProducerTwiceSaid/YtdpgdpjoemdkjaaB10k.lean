/- Plain laws of the functions uI this seat's, laid anew from another seat's text. No conditions but those that the theorems name. -/
import Derived.Test.YtdpgdpjoemdkjaaP10xD
import Derived.Test.YtdpgdpjoemdkjaaB10a
import Derived.Test.YtdpgdpjoemdkjaaB10b
namespace Go.Ab
open Go
set_option linter.unusedVariables false
def zAe (t:zC):Prop:=t.Id<0∨t.Id>1000000000000000∨t.Domain<0∨t.Domain≥8
instance decThreadBad {t:zC}:Decidable (zAe t):=inferInstanceAs (Decidable (_∨_))
def kH (t:zC):Int:=if zAe t then 2 else uU t.Name
theorem zJ2 {t:zC}:(decide (t.Id<(0:Int))||(decide (t.Id>(1000000000000000:Int))||(decide (t.Domain<(0:Int))||decide (t.Domain≥(8:Int)))))=decide (zAe t):=by
 by_cases h:zAe t
 ·rw [y4 h];unfold zAe at h;simpa using h
 ·rw [yR h];unfold zAe at h;simp;omega
theorem zBS {t:zC}:jE 200000 t=some (kH t):=by
 unfold jE kH
 rw [zJ2,pN]
 by_cases h:zAe t
 ·rw [y4 h,if_pos h];rfl
 ·rw [yR h,if_neg h];rfl
end Go.Ab
