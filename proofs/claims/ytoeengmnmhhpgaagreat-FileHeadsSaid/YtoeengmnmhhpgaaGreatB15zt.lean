/- Plain laws of the functions w8 this seat's, laid anew from another seat's text. No conditions but those that the theorems name. -/
import Derived.Test.YtoeengmnmhhpgaaGreatP15zxD
import Derived.Test.YtoeengmnmhhpgaaGreatB15za
import Derived.Test.YtoeengmnmhhpgaaGreatB15zb
namespace Go.Ab
open Go
set_option linter.unusedVariables false
def nU (t:y6):Prop:=t.Id<0∨t.Id>1000000000000000∨t.Domain<0∨t.Domain≥8
instance decThreadBad {t:y6}:Decidable (nU t):=inferInstanceAs (Decidable (_∨_))
def nG (t:y6):Int:=if nU t then 2 else qY t.Name
theorem HD {t:y6}:(decide (t.Id<(0:Int))||(decide (t.Id>(1000000000000000:Int))||(decide (t.Domain<(0:Int))||decide (t.Domain≥(8:Int)))))=decide (nU t):=by
  by_cases h:nU t
  · rw [wM h];unfold nU at h;simpa using h
  · rw [wV h];unfold nU at h;simp;omega
theorem VE {t:y6}:gM 281474976710656 t=some (nG t):=by
  unfold gM nG
  rw [HD,TJ]
  by_cases h:nU t
  · rw [wM h,if_pos h];rfl
  · rw [wV h,if_neg h];rfl
theorem Q4 {t:y6}:iB 281474976710656 t=some (nG t):=by
  unfold iB nG
  rw [HD,UL]
  by_cases h:nU t
  · rw [wM h,if_pos h];rfl
  · rw [wV h,if_neg h];rfl
end Go.Ab
