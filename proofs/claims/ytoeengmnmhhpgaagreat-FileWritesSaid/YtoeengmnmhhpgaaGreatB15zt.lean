/- Plain laws of the functions uS this seat's, laid anew from another seat's text. No conditions but those that the theorems name. -/
import Derived.Test.YtoeengmnmhhpgaaGreatP15zxD
import Derived.Test.YtoeengmnmhhpgaaGreatB15za
import Derived.Test.YtoeengmnmhhpgaaGreatB15zb
namespace Go.Ab
open Go
set_option linter.unusedVariables false
def d7 (t:xI):Prop:=t.Id<0\/t.Id>1000000000000000\/t.Domain<0\/t.Domain>=8
instance decThreadBad {t:xI}:Decidable (d7 t):=inferInstanceAs (Decidable (_\/_))
def bL (t:xI):Int:=if d7 t then 2 else tC t.Name
theorem V6 {t:xI}:(decide (t.Id<(0:Int))||(decide (t.Id>(1000000000000000:Int))||(decide (t.Domain<(0:Int))||decide (t.Domain>=(8:Int)))))=decide (d7 t):=by
 by_cases h:d7 t
 ·rw [yN h];unfold d7 at h;simpa using h
 ·rw [yP h];unfold d7 at h;simp;omega
theorem zCO {t:xI}:HL 281474976710656 t=some (bL t):=by
 unfold HL bL;rw [V6,JC]
 by_cases h:d7 t
 ·rw [yN h,if_pos h];rfl
 ·rw [yP h,if_neg h];rfl
theorem zHD {t:xI}:KQ 281474976710656 t=some (bL t):=by
 unfold KQ bL;rw [V6,GH]
 by_cases h:d7 t
 ·rw [yN h,if_pos h];rfl
 ·rw [yP h,if_neg h];rfl
end Go.Ab
