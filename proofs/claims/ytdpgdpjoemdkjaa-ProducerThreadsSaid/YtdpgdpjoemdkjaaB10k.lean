/- Plain laws of the functions wP this seat's, laid anew from another seat's text. No conditions but those that the theorems name. -/
import Derived.Test.YtdpgdpjoemdkjaaP10xD
import Derived.Test.YtdpgdpjoemdkjaaB10a
import Derived.Test.YtdpgdpjoemdkjaaB10b
namespace Go.Ab
open Go
set_option linter.unusedVariables false
def qX (t:zC):Prop:=t.Id<0∨t.Id>1000000000000000∨t.Domain<0∨t.Domain≥8
instance decThreadBad {t:zC}:Decidable (qX t):=inferInstanceAs (Decidable (_∨_))
def wY (t:zC):Int:=if qX t then 2 else wO t.Name
theorem zDp {t:zC}:(decide (t.Id<(0:Int))||(decide (t.Id>(1000000000000000:Int))||(decide (t.Domain<(0:Int))||decide (t.Domain≥(8:Int)))))=decide (qX t):=by
 by_cases h:qX t
 ·rw [yR h];unfold qX at h;simpa using h
 ·rw [yH h];unfold qX at h;simp;omega
theorem j1 {t:zC}:vJ 200000 t=some (wY t):=by
 unfold vJ wY
 rw [zDp,kE]
 by_cases h:qX t
 ·rw [yR h,if_pos h];rfl
 ·rw [yH h,if_neg h];rfl
theorem zCo {t:zC}:kL 200000 t=some (wY t):=by
 unfold kL wY
 rw [zDp,zIb]
 by_cases h:qX t
 ·rw [yR h,if_pos h];rfl
 ·rw [yH h,if_neg h];rfl
end Go.Ab
