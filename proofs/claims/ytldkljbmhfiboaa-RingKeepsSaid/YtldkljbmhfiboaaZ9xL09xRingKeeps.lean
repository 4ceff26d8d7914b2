/- RingKeeps returns true for every input, and its arguments read behind the call as before. No conditions. -/
import Derived.Test.YtldkljbmhfiboaaR9xL09xRingKeeps
import Derived.Test.YtldkljbmhfiboaaC09e
namespace Go.Proofs.Ytldkljbmhfiboaa
theorem L09_RingKeeps_holds : Rows.RingKeepsSaid := L09_RingKeeps_row Go.Ab.L09_RingKeeps_plain
#print axioms L09_RingKeeps_holds
end Go.Proofs.Ytldkljbmhfiboaa
