/- ColumnShort returns true for every input, and its arguments read behind the call as before. No conditions. -/
import Derived.Test.YtefkcplneflhgaaR33xL33xColumnShort
import Derived.Test.YtefkcplneflhgaaC33f
namespace Go.Proofs.Ytefkcplneflhgaa
theorem L33_ColumnShort_holds : Rows.ColumnShortSaid := L33_ColumnShort_row Go.Ab.L33_ColumnShort_plain
#print axioms L33_ColumnShort_holds
end Go.Proofs.Ytefkcplneflhgaa
