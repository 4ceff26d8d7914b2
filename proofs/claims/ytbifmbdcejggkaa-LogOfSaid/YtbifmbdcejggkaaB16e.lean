/- Plain laws of the functions t3 this seat's, laid anew from another seat's text. No conditions but those that the theorems name. -/
import Derived.Test.YtbifmbdcejggkaaP16xD
import Derived.Test.YtbifmbdcejggkaaB16b
namespace Go.Ab
open Go
set_option linter.unusedVariables false
def k9 (t:zY):Prop:=t.Id<0∨t.Id>1000000000000000∨t.Domain<0∨t.Domain≥8
instance decThreadBad {t:zY}:Decidable (k9 t):=inferInstanceAs (Decidable (_∨_))
def zAV (t:zY):Int:=if k9 t then 2 else jY t.Name
theorem zFx {t:zY}:(decide (t.Id<(0:Int))||(decide (t.Id>(1000000000000000:Int))||(decide (t.Domain<(0:Int))||decide (t.Domain≥(8:Int)))))=decide (k9 t):=by
 by_cases h:k9 t
 ·rw [yK h];unfold k9 at h;simpa using h
 ·rw [yH h];unfold k9 at h;simp;omega
theorem zE7 {t:zY}:jT 200000 t=some (zAV t):=by
 unfold jT zAV
 rw [zFx,zBk]
 by_cases h:k9 t
 ·rw [yK h,if_pos h];rfl
 ·rw [yH h,if_neg h];rfl
theorem zIA {t:zY}:zA9 200000 t=some (zAV t):=by
 unfold zA9 zAV
 rw [zFx,zDh]
 by_cases h:k9 t
 ·rw [yK h,if_pos h];rfl
 ·rw [yH h,if_neg h];rfl
end Go.Ab
