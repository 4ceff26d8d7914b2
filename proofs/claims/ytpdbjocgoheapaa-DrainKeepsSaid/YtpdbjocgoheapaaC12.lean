/- Drains: made. -/
import Derived.Test.YtpdbjocgoheapaaB12h
import Derived.Test.YtpdbjocgoheapaaR12
namespace Go.Ab
open Go
set_option linter.unusedVariables false

theorem awake12 : L12_awake 200000 = some true := by kernel_rfl
end Go.Ab
