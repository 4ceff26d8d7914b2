/- CodecLinear returns true for every input, and its arguments read behind the call as before. No conditions. -/
import Derived.Test.YtbmhiadpagpjmaaR5xlLinear
import Derived.Test.YtbmhiadpagpjmaaC05e
namespace Go.Proofs.Ytbmhiadpagpjmaa
theorem lLinear_holds : Rows.CodecLinearSaid := lLinear_row Go.Ab.lLinear_plain
#print axioms lLinear_holds
end Go.Proofs.Ytbmhiadpagpjmaa
