/- Plain laws of the functions qE this seat's, laid anew from another seat's text. No conditions but those that the theorems name. -/
import Derived.Test.YtbifmbdcejggkaaP16xD
import Derived.Test.YtbifmbdcejggkaaB16b
namespace Go.Ab
open Go
set_option linter.unusedVariables false
def p0 (t:z0):Prop:=t.Id<0∨t.Id>1000000000000000∨t.Domain<0∨t.Domain≥8
instance decThreadBad {t:z0}:Decidable (p0 t):=inferInstanceAs (Decidable (_∨_))
def zBj (t:z0):Int:=if p0 t then 2 else kR t.Name
theorem zGc {t:z0}:(decide (t.Id<(0:Int))||(decide (t.Id>(1000000000000000:Int))||(decide (t.Domain<(0:Int))||decide (t.Domain≥(8:Int)))))=decide (p0 t):=by
 by_cases h:p0 t
 ·rw [yP h];unfold p0 at h;simpa using h
 ·rw [yN h];unfold p0 at h;simp;omega
theorem zFj {t:z0}:kU 281474976710656 t=some (zBj t):=by
 unfold kU zBj
 rw [zGc,zB9]
 by_cases h:p0 t
 ·rw [yP h,if_pos h];rfl
 ·rw [yN h,if_neg h];rfl
theorem zJh {t:z0}:zBz 281474976710656 t=some (zBj t):=by
 unfold zBz zBj
 rw [zGc,zDX]
 by_cases h:p0 t
 ·rw [yP h,if_pos h];rfl
 ·rw [yN h,if_neg h];rfl
end Go.Ab
