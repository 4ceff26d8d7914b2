/- InternAgain returns true for every input, and its arguments read behind the call as before. No conditions. -/
import Derived.Test.YtngjbadoekamcaaR6xL06xInternAgain
import Derived.Test.YtngjbadoekamcaaC06f
namespace Go.Proofs.Ytngjbadoekamcaa
theorem L06_InternAgain_holds : Rows.InternAgainSaid := L06_InternAgain_row Go.Ab.L06_InternAgain_plain
#print axioms L06_InternAgain_holds
end Go.Proofs.Ytngjbadoekamcaa
