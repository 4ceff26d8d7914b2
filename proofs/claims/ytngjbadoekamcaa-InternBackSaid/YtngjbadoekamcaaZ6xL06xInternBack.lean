/- InternBack returns true for every input, and its arguments read behind the call as before. No conditions. -/
import Derived.Test.YtngjbadoekamcaaR6xL06xInternBack
import Derived.Test.YtngjbadoekamcaaC06f
namespace Go.Proofs.Ytngjbadoekamcaa
theorem L06_InternBack_holds : Rows.InternBackSaid := L06_InternBack_row Go.Ab.L06_InternBack_plain
#print axioms L06_InternBack_holds
end Go.Proofs.Ytngjbadoekamcaa
