/- Plain laws of the functions uV this seat's, laid anew from another seat's text. No conditions but those that the theorems name. -/
import Derived.Test.YtoeengmnmhhpgaaGreatP15zxD
import Derived.Test.YtoeengmnmhhpgaaGreatB15za
import Derived.Test.YtoeengmnmhhpgaaGreatB15zb
namespace Go.Ab
open Go
set_option linter.unusedVariables false
def fG (t:y7):Prop:=t.Id<0∨t.Id>1000000000000000∨t.Domain<0∨t.Domain≥8
instance decThreadBad {t:y7}:Decidable (fG t):=inferInstanceAs (Decidable (_∨_))
def fK (t:y7):Int:=if fG t then 2 else tD t.Name
theorem XI {t:y7}:(decide (t.Id<(0:Int))||(decide (t.Id>(1000000000000000:Int))||(decide (t.Domain<(0:Int))||decide (t.Domain≥(8:Int)))))=decide (fG t):=by
 by_cases h:fG t
 ·rw [yP h];unfold fG at h;simpa using h
 ·rw [yM h];unfold fG at h;simp;omega
theorem zE8 {t:y7}:DU 281474976710656 t=some (fK t):=by
 unfold DU fK
 rw [XI,DA]
 by_cases h:fG t
 ·rw [yP h,if_pos h];rfl
 ·rw [yM h,if_neg h];rfl
theorem zER {t:y7}:HJ 281474976710656 t=some (fK t):=by
 unfold HJ fK
 rw [XI,JC]
 by_cases h:fG t
 ·rw [yP h,if_pos h];rfl
 ·rw [yM h,if_neg h];rfl
end Go.Ab
