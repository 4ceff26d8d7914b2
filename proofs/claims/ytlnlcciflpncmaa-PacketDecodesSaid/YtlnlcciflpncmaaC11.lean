/- Packets: checks, limits, joining and splitting. -/
import Derived.Test.YtlnlcciflpncmaaB11d
import Derived.Test.YtlnlcciflpncmaaR11
namespace Go.Ab
open Go
set_option linter.unusedVariables false
theorem zKP:zBS 200000=some true:=by kernel_rfl
end Go.Ab
