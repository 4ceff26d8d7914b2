/- RingPlays returns true for every input, and its arguments read behind the call as before. No conditions. -/
import Derived.Test.YtldkljbmhfiboaaR9xL09xRingPlays
import Derived.Test.YtldkljbmhfiboaaC09f
namespace Go.Proofs.Ytldkljbmhfiboaa
theorem L09_RingPlays_holds : Rows.RingPlaysSaid := L09_RingPlays_row Go.Ab.L09_RingPlays_plain
#print axioms L09_RingPlays_holds
end Go.Proofs.Ytldkljbmhfiboaa
