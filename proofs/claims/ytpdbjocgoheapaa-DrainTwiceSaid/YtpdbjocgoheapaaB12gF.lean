/- Plain laws of the functions below this seat's, laid anew from another seat's text. No conditions but those that the theorems name. -/
import Derived.Test.YtpdbjocgoheapaaP12xD
import Derived.Test.YtpdbjocgoheapaaBFuel
import Derived.Test.YtpdbjocgoheapaaB12bF
import Derived.Test.YtpdbjocgoheapaaB12cF
import Derived.Test.YtpdbjocgoheapaaB12dF
import Derived.Test.YtpdbjocgoheapaaB12eF
import Derived.Test.YtpdbjocgoheapaaB12fF
namespace Go.Ab
open Go
set_option linter.unusedVariables false
def thrBad (s : T_api_Service) (i : Nat) (t : T_api_Thread) : Prop := outP ((s.Next[i]?).getD 0) ∨ cl ((s.Next[i]?).getD 0) none (ofT t.Id s.Queue) = false
instance decThrBad {s : T_api_Service} {i : Nat} {t : T_api_Thread} : Decidable (thrBad s i t) := inferInstanceAs (Decidable (_ ∨ _))
end Go.Ab
