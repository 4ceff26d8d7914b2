/- RecordDecodes returns true for every input, and its arguments read behind the call as before. No conditions. -/
import Derived.Test.YtollmoogggcmaaaR8xL08xRecordDecodes
import Derived.Test.YtollmoogggcmaaaC08
namespace Go.Proofs.Ytollmoogggcmaaa
theorem L08_RecordDecodes_holds : Rows.RecordDecodesSaid := L08_RecordDecodes_row Go.Ab.L08_RecordDecodes_plain
#print axioms L08_RecordDecodes_holds
end Go.Proofs.Ytollmoogggcmaaa
