/- RecordUnique returns true for every input, and its arguments read behind the call as before. No conditions. -/
import Derived.Test.YtollmoogggcmaaaR8xL08xRecordUnique
import Derived.Test.YtollmoogggcmaaaC08
namespace Go.Proofs.Ytollmoogggcmaaa
theorem L08_RecordUnique_holds : Rows.RecordUniqueSaid := L08_RecordUnique_row Go.Ab.L08_RecordUnique_plain
#print axioms L08_RecordUnique_holds
end Go.Proofs.Ytollmoogggcmaaa
