/- Plain laws of the functions tL this seat's, laid anew from another seat's text. No conditions but those that the theorems name. -/
import Derived.Test.YtdpgdpjoemdkjaaP10xD
import Derived.Test.YtdpgdpjoemdkjaaB10a
import Derived.Test.YtdpgdpjoemdkjaaB10b
namespace Go.Ab
open Go
set_option linter.unusedVariables false
def zAt (t:yQ):Prop:=t.Id<0∨t.Id>1000000000000000∨t.Domain<0∨t.Domain≥8
instance decThreadBad {t:yQ}:Decidable (zAt t):=inferInstanceAs (Decidable (_∨_))
def nW (t:yQ):Int:=if zAt t then 2 else uG t.Name
theorem zHK {t:yQ}:(decide (t.Id<(0:Int))||(decide (t.Id>(1000000000000000:Int))||(decide (t.Domain<(0:Int))||decide (t.Domain≥(8:Int)))))=decide (zAt t):=by
 by_cases h:zAt t
 ·rw [yR h];unfold zAt at h;simpa using h
 ·rw [yF h];unfold zAt at h;simp;omega
theorem zGv {t:yQ}:kM 200000 t=some (nW t):=by
 unfold kM nW
 rw [zHK,zAh]
 by_cases h:zAt t
 ·rw [yR h,if_pos h];rfl
 ·rw [yF h,if_neg h];rfl
theorem zKJ {t:yQ}:zCK 200000 t=some (nW t):=by
 unfold zCK nW
 rw [zHK,zCi]
 by_cases h:zAt t
 ·rw [yR h,if_pos h];rfl
 ·rw [yF h,if_neg h];rfl
end Go.Ab
