/- RingChecks returns true for every input, and its arguments read behind the call as before. No conditions. -/
import Derived.Test.YtldkljbmhfiboaaR9xL09xRingChecks
import Derived.Test.YtldkljbmhfiboaaC09b
namespace Go.Proofs.Ytldkljbmhfiboaa
theorem L09_RingChecks_holds : Rows.RingChecksSaid := L09_RingChecks_row Go.Ab.L09_RingChecks_plain
#print axioms L09_RingChecks_holds
end Go.Proofs.Ytldkljbmhfiboaa
