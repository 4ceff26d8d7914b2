/- Printed: the typed Lean functions of the Go functions, or the proofs that the Go functions meet them. No conditions but those that the theorems name. -/
import Derived.Test.YtdpgdpjoemdkjaaP10x3
namespace Go.Ab
open Go
set_option linter.unusedVariables false
end Go.Ab
