/- InternChecks returns true for every input, and its arguments read behind the call as before. No conditions. -/
import Derived.Test.YtngjbadoekamcaaR6xL06xInternChecks
import Derived.Test.YtngjbadoekamcaaC06e
namespace Go.Proofs.Ytngjbadoekamcaa
theorem L06_InternChecks_holds : Rows.InternChecksSaid := L06_InternChecks_row Go.Ab.L06_InternChecks_plain
#print axioms L06_InternChecks_holds
end Go.Proofs.Ytngjbadoekamcaa
