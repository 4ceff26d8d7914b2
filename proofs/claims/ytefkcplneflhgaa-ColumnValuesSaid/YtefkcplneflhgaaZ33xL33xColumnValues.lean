/- ColumnValues returns true for every input, and its arguments read behind the call as before. No conditions. -/
import Derived.Test.YtefkcplneflhgaaR33xL33xColumnValues
import Derived.Test.YtefkcplneflhgaaC33
namespace Go.Proofs.Ytefkcplneflhgaa
theorem L33_ColumnValues_holds : Rows.ColumnValuesSaid := L33_ColumnValues_row Go.Ab.L33_ColumnValues_plain
#print axioms L33_ColumnValues_holds
end Go.Proofs.Ytefkcplneflhgaa
