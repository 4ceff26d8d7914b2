/- Lemmas. No conditions but those that they name. -/
import Derived.Test.YtcejcgalbcnjnaaGreatBtb
namespace Go.Ab
open Go
set_option linter.unusedVariables false
def EF (t:wN):Prop:=t.Id<0\/t.Id>1000000000000000\/t.Xx<0\/t.Xx>=8
instance decThreadBad {t:wN}:Decidable (EF t):=inferInstanceAs (Decidable (_\/_))
def R2 (t:wN):Int:=if EF t then 2 else fQ t.Yc
theorem zN1 {t:wN}:(decide (t.Id<(0:Int))||(decide (t.Id>(1000000000000000:Int))||(decide (t.Xx<(0:Int))||decide (t.Xx>=(8:Int)))))=decide (EF t):=by
 by_cases h:EF t
 ·rw [wE h];unfold EF at h;simpa using h
 ·rw [xN h];unfold EF at h;simp;omega
theorem zIe {t:wN}:MX 281474976710656 t=some (R2 t):=by
 unfold MX R2;rw [zN1,zA3]
 by_cases h:EF t
 ·rw [wE h,if_pos h];rfl
 ·rw [xN h,if_neg h];rfl
end Go.Ab
