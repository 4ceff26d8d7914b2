/- Plain laws of the functions below this seat's, laid anew from another seat's text. No conditions but those that the theorems name. -/
import Derived.Test.YtpdbjocgoheapaaP12xD
import Derived.Test.YtpdbjocgoheapaaB12b
import Derived.Test.YtpdbjocgoheapaaB12c
import Derived.Test.YtpdbjocgoheapaaB12d
import Derived.Test.YtpdbjocgoheapaaB12e
import Derived.Test.YtpdbjocgoheapaaB12f
import Derived.Test.YtpdbjocgoheapaaB12g
namespace Go.Ab
open Go
set_option linter.unusedVariables false
theorem chk_new {l : List T_api_Thread} (h : threadsS l = 0) : chkS ⟨l, List.replicate l.length 0, []⟩ = 0 := by
  unfold chkS
  rw [if_neg (show ¬ threadsS l ≠ 0 by omega), if_neg]
  · rfl
  · unfold nextBad
    rintro (h | h)
    · apply h; simp
    · apply h
      refine List.all_eq_true.2 (fun n hn => ?_)
      rw [List.mem_replicate] at hn
      rw [hn.2]; rfl
end Go.Ab
