/- Plain laws of the functions tF this seat's, laid anew from another seat's text. No conditions but those that the theorems name. -/
import Derived.Test.YtbifmbdcejggkaaP16xD
import Derived.Test.YtbifmbdcejggkaaB16b
namespace Go.Ab
open Go
set_option linter.unusedVariables false
def pL (t:zP):Prop:=t.Id<0∨t.Id>1000000000000000∨t.Domain<0∨t.Domain≥8
instance decThreadBad {t:zP}:Decidable (pL t):=inferInstanceAs (Decidable (_∨_))
def zCE (t:zP):Int:=if pL t then 2 else nB t.Name
theorem zJt {t:zP}:(decide (t.Id<(0:Int))||(decide (t.Id>(1000000000000000:Int))||(decide (t.Domain<(0:Int))||decide (t.Domain≥(8:Int)))))=decide (pL t):=by
  by_cases h:pL t
  · rw [y5 h];unfold pL at h;simpa using h
  · rw [yU h];unfold pL at h;simp;omega
theorem zDK {t:zP}:jG 281474976710656 t=some (zCE t):=by
  unfold jG zCE
  rw [zJt,zAP]
  by_cases h:pL t
  · rw [y5 h,if_pos h];rfl
  · rw [yU h,if_neg h];rfl
end Go.Ab
