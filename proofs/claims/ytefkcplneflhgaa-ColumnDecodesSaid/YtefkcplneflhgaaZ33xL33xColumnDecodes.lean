/- ColumnDecodes returns true for every input, and its arguments read behind the call as before. No conditions. -/
import Derived.Test.YtefkcplneflhgaaR33xL33xColumnDecodes
import Derived.Test.YtefkcplneflhgaaC33f
namespace Go.Proofs.Ytefkcplneflhgaa
theorem L33_ColumnDecodes_holds : Rows.ColumnDecodesSaid := L33_ColumnDecodes_row Go.Ab.L33_ColumnDecodes_plain
#print axioms L33_ColumnDecodes_holds
end Go.Proofs.Ytefkcplneflhgaa
