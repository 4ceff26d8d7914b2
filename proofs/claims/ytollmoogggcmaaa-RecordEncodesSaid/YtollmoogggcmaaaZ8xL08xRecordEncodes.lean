/- RecordEncodes returns true for every input, and its arguments read behind the call as before. No conditions. -/
import Derived.Test.YtollmoogggcmaaaR8xL08xRecordEncodes
import Derived.Test.YtollmoogggcmaaaC08
namespace Go.Proofs.Ytollmoogggcmaaa
theorem L08_RecordEncodes_holds : Rows.RecordEncodesSaid := L08_RecordEncodes_row Go.Ab.L08_RecordEncodes_plain
#print axioms L08_RecordEncodes_holds
end Go.Proofs.Ytollmoogggcmaaa
