/- Plain laws of the functions tG this seat's, laid anew from another seat's text. No conditions but those that the theorems name. -/
import Derived.Test.YtbifmbdcejggkaaP16xD
import Derived.Test.YtbifmbdcejggkaaB16b
namespace Go.Ab
open Go
set_option linter.unusedVariables false
def kW (t:zQ):Prop:=t.Id<0∨t.Id>1000000000000000∨t.Domain<0∨t.Domain≥8
instance decThreadBad {t:zQ}:Decidable (kW t):=inferInstanceAs (Decidable (_∨_))
def zCo (t:zQ):Int:=if kW t then 2 else pB t.Name
theorem zIW {t:zQ}:(decide (t.Id<(0:Int))||(decide (t.Id>(1000000000000000:Int))||(decide (t.Domain<(0:Int))||decide (t.Domain≥(8:Int)))))=decide (kW t):=by
  by_cases h:kW t
  · rw [y7 h];unfold kW at h;simpa using h
  · rw [y1 h];unfold kW at h;simp;omega
theorem zDB {t:zQ}:jA 281474976710656 t=some (zCo t):=by
  unfold jA zCo
  rw [zIW,zAE]
  by_cases h:kW t
  · rw [y7 h,if_pos h];rfl
  · rw [y1 h,if_neg h];rfl
end Go.Ab
