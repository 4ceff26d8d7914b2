/- RecordBack returns true for every input, and its arguments read behind the call as before. No conditions. -/
import Derived.Test.YtollmoogggcmaaaR8xL08xRecordBack
import Derived.Test.YtollmoogggcmaaaC08
namespace Go.Proofs.Ytollmoogggcmaaa
theorem L08_RecordBack_holds : Rows.RecordBackSaid := L08_RecordBack_row Go.Ab.L08_RecordBack_plain
#print axioms L08_RecordBack_holds
end Go.Proofs.Ytollmoogggcmaaa
