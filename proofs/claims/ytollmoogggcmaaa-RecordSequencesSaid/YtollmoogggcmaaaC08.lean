/- Records: the five laws. -/
import Derived.Test.YtollmoogggcmaaaB08g
import Derived.Test.YtollmoogggcmaaaR8
namespace Go.Ab
open Go
set_option linter.unusedVariables false

theorem lives08 : L08_lives 200000 = some true := by kernel_rfl
theorem stack_dec {n : List (List Int)} {s : List Arr2_Int} {b : List Int} : (decS n s b).1.Stack.length ≤ 32 := by
  unfold decS
  split
  · simp [ev0]
  split
  · simp [ev0]
  split
  · simp [ev0]
  split
  · simp [ev0]
  split
  · simp [ev0]
  · exact stackV_len
end Go.Ab
