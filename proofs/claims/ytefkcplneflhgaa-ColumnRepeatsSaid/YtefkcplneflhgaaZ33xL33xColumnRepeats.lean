/- ColumnRepeats returns true for every input, and its arguments read behind the call as before. No conditions. -/
import Derived.Test.YtefkcplneflhgaaR33xL33xColumnRepeats
import Derived.Test.YtefkcplneflhgaaC33f
namespace Go.Proofs.Ytefkcplneflhgaa
theorem L33_ColumnRepeats_holds : Rows.ColumnRepeatsSaid := L33_ColumnRepeats_row Go.Ab.L33_ColumnRepeats_plain
#print axioms L33_ColumnRepeats_holds
end Go.Proofs.Ytefkcplneflhgaa
