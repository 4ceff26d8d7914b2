/- RingMakes returns true for every input, and its arguments read behind the call as before. No conditions. -/
import Derived.Test.YtldkljbmhfiboaaR9xL09xRingMakes
import Derived.Test.YtldkljbmhfiboaaC09b
namespace Go.Proofs.Ytldkljbmhfiboaa
theorem L09_RingMakes_holds : Rows.RingMakesSaid := L09_RingMakes_row Go.Ab.L09_RingMakes_plain
#print axioms L09_RingMakes_holds
end Go.Proofs.Ytldkljbmhfiboaa
