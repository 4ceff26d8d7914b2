/- Plain laws of the functions u2 this seat's, laid anew from another seat's text. No conditions but those that the theorems name. -/
import Derived.Test.YtbifmbdcejggkaaP16xD
import Derived.Test.YtbifmbdcejggkaaB16b
namespace Go.Ab
open Go
set_option linter.unusedVariables false
def kM (t:zO):Prop:=t.Id<0∨t.Id>1000000000000000∨t.Domain<0∨t.Domain≥8
instance decThreadBad {t:zO}:Decidable (kM t):=inferInstanceAs (Decidable (_∨_))
def zB6 (t:zO):Int:=if kM t then 2 else kS t.Name
theorem zIH {t:zO}:(decide (t.Id<(0:Int))||(decide (t.Id>(1000000000000000:Int))||(decide (t.Domain<(0:Int))||decide (t.Domain≥(8:Int)))))=decide (kM t):=by
  by_cases h:kM t
  · rw [y1 h];unfold kM at h;simpa using h
  · rw [y0 h];unfold kM at h;simp;omega
theorem zDb {t:zO}:qT 281474976710656 t=some (zB6 t):=by
  unfold qT zB6
  rw [zIH,zAl]
  by_cases h:kM t
  · rw [y1 h,if_pos h];rfl
  · rw [y0 h,if_neg h];rfl
end Go.Ab
