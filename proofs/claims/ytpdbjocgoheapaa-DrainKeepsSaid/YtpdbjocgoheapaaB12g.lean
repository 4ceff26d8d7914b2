/- Plain laws of the functions below this seat's, laid anew from another seat's text. No conditions but those that the theorems name. -/
import Derived.Test.YtpdbjocgoheapaaP12xD
import Derived.Test.YtpdbjocgoheapaaB12b
import Derived.Test.YtpdbjocgoheapaaB12c
import Derived.Test.YtpdbjocgoheapaaB12d
import Derived.Test.YtpdbjocgoheapaaB12e
import Derived.Test.YtpdbjocgoheapaaB12f
namespace Go.Ab
open Go
set_option linter.unusedVariables false
theorem qok_bad {ts : List T_api_Thread} {next : List Int} : ∀ {l : List T_api_Packet} {row : List (Int × Int)} {p : T_api_Packet}, p ∈ l → pkBad ts p → qok ts next row l = false := by
  intro l
  induction l with
  | nil => intro row p h; cases h
  | cons q r ih =>
    intro row p h hb
    unfold qok
    simp only [qrun]
    by_cases hq : pkBad ts q
    · rw [if_pos hq]
    · rw [if_neg hq]
      rcases List.mem_cons.1 h with rfl | h
      · exact absurd hb hq
      · cases follows (mget row (atS ts q.Thread)) q
        · rfl
        · exact ih h hb
def thrBad (s : T_api_Service) (i : Nat) (t : T_api_Thread) : Prop := outP ((s.Next[i]?).getD 0) ∨ cl ((s.Next[i]?).getD 0) none (ofT t.Id s.Queue) = false
instance decThrBad {s : T_api_Service} {i : Nat} {t : T_api_Thread} : Decidable (thrBad s i t) := inferInstanceAs (Decidable (_ ∨ _))
end Go.Ab
