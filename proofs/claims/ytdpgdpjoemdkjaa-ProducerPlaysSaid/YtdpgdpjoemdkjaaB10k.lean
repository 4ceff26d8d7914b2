/- Plain laws of the functions qA this seat's, laid anew from another seat's text. No conditions but those that the theorems name. -/
import Derived.Test.YtdpgdpjoemdkjaaP10xD
import Derived.Test.YtdpgdpjoemdkjaaB10a
import Derived.Test.YtdpgdpjoemdkjaaB10b
namespace Go.Ab
open Go
set_option linter.unusedVariables false
def zAM (t:yA):Prop:=t.Id<0∨t.Id>1000000000000000∨t.Domain<0∨t.Domain≥8
instance decThreadBad {t:yA}:Decidable (zAM t):=inferInstanceAs (Decidable (_∨_))
def jT (t:yA):Int:=if zAM t then 2 else u7 t.Name
theorem zHG {t:yA}:(decide (t.Id<(0:Int))||(decide (t.Id>(1000000000000000:Int))||(decide (t.Domain<(0:Int))||decide (t.Domain≥(8:Int)))))=decide (zAM t):=by
 by_cases h:zAM t
 ·rw [yW h];unfold zAM at h;simpa using h
 ·rw [yI h];unfold zAM at h;simp;omega
theorem zD6 {t:yA}:pP 200000 t=some (jT t):=by
 unfold pP jT
 rw [zHG,zAx]
 by_cases h:zAM t
 ·rw [yW h,if_pos h];rfl
 ·rw [yI h,if_neg h];rfl
theorem zGG {t:yA}:zBI 200000 t=some (jT t):=by
 unfold zBI jT
 rw [zHG,zCo]
 by_cases h:zAM t
 ·rw [yW h,if_pos h];rfl
 ·rw [yI h,if_neg h];rfl
end Go.Ab
