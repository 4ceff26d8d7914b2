/- RingMoves returns true for every input, and its arguments read behind the call as before. No conditions. -/
import Derived.Test.YtldkljbmhfiboaaR9xL09xRingMoves
import Derived.Test.YtldkljbmhfiboaaC09e
namespace Go.Proofs.Ytldkljbmhfiboaa
theorem L09_RingMoves_holds : Rows.RingMovesSaid := L09_RingMoves_row Go.Ab.L09_RingMoves_plain
#print axioms L09_RingMoves_holds
end Go.Proofs.Ytldkljbmhfiboaa
