/- Plain laws of the functions w9 this seat's, laid anew from another seat's text. No conditions but those that the theorems name. -/
import Derived.Test.YtdpgdpjoemdkjaaP10xD
import Derived.Test.YtdpgdpjoemdkjaaB10a
import Derived.Test.YtdpgdpjoemdkjaaB10b
namespace Go.Ab
open Go
set_option linter.unusedVariables false
def kF (t:zC):Prop:=t.Id<0∨t.Id>1000000000000000∨t.Domain<0∨t.Domain≥8
instance decThreadBad {t:zC}:Decidable (kF t):=inferInstanceAs (Decidable (_∨_))
def qD (t:zC):Int:=if kF t then 2 else vJ t.Name
theorem zIq {t:zC}:(decide (t.Id<(0:Int))||(decide (t.Id>(1000000000000000:Int))||(decide (t.Domain<(0:Int))||decide (t.Domain≥(8:Int)))))=decide (kF t):=by
 by_cases h:kF t
 ·rw [yH h];unfold kF at h;simpa using h
 ·rw [z7 h];unfold kF at h;simp;omega
theorem zAk {t:zC}:tD 200000 t=some (qD t):=by
 unfold tD qD
 rw [zIq,q8]
 by_cases h:kF t
 ·rw [yH h,if_pos h];rfl
 ·rw [z7 h,if_neg h];rfl
end Go.Ab
