/- RingPuts returns true for every input, and its arguments read behind the call as before. No conditions. -/
import Derived.Test.YtldkljbmhfiboaaR9xL09xRingPuts
import Derived.Test.YtldkljbmhfiboaaC09d
namespace Go.Proofs.Ytldkljbmhfiboaa
theorem L09_RingPuts_holds : Rows.RingPutsSaid := L09_RingPuts_row Go.Ab.L09_RingPuts_plain
#print axioms L09_RingPuts_holds
end Go.Proofs.Ytldkljbmhfiboaa
