/- ColumnEncodes returns true for every input, and its arguments read behind the call as before. No conditions. -/
import Derived.Test.YtefkcplneflhgaaR33xL33xColumnEncodes
import Derived.Test.YtefkcplneflhgaaC33f
namespace Go.Proofs.Ytefkcplneflhgaa
theorem L33_ColumnEncodes_holds : Rows.ColumnEncodesSaid := L33_ColumnEncodes_row Go.Ab.L33_ColumnEncodes_plain
#print axioms L33_ColumnEncodes_holds
end Go.Proofs.Ytefkcplneflhgaa
