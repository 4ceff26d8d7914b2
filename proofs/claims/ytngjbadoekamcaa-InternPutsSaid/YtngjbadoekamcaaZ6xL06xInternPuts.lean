/- InternPuts returns true for every input, and its arguments read behind the call as before. No conditions. -/
import Derived.Test.YtngjbadoekamcaaR6xL06xInternPuts
import Derived.Test.YtngjbadoekamcaaC06c
namespace Go.Proofs.Ytngjbadoekamcaa
theorem L06_InternPuts_holds : Rows.InternPutsSaid := L06_InternPuts_row Go.Ab.L06_InternPuts_plain
#print axioms L06_InternPuts_holds
end Go.Proofs.Ytngjbadoekamcaa
