/- RecordSequences returns true for every input, and its arguments read behind the call as before. No conditions. -/
import Derived.Test.YtollmoogggcmaaaR8xL08xRecordSequences
import Derived.Test.YtollmoogggcmaaaC08b
namespace Go.Proofs.Ytollmoogggcmaaa
theorem L08_RecordSequences_holds : Rows.RecordSequencesSaid := L08_RecordSequences_row Go.Ab.L08_RecordSequences_plain
#print axioms L08_RecordSequences_holds
end Go.Proofs.Ytollmoogggcmaaa
