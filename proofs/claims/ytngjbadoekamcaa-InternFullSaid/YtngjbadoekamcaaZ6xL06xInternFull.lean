/- InternFull returns true for every input, and its arguments read behind the call as before. No conditions. -/
import Derived.Test.YtngjbadoekamcaaR6xL06xInternFull
import Derived.Test.YtngjbadoekamcaaC06g
namespace Go.Proofs.Ytngjbadoekamcaa
theorem L06_InternFull_holds : Rows.InternFullSaid := L06_InternFull_row Go.Ab.L06_InternFull_plain
#print axioms L06_InternFull_holds
end Go.Proofs.Ytngjbadoekamcaa
