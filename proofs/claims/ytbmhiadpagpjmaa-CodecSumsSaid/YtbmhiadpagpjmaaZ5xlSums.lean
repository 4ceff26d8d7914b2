/- CodecSums returns true for every input, and its arguments read behind the call as before. No conditions. -/
import Derived.Test.YtbmhiadpagpjmaaR5xlSums
import Derived.Test.YtbmhiadpagpjmaaC05d
namespace Go.Proofs.Ytbmhiadpagpjmaa
theorem lSums_holds : Rows.CodecSumsSaid := lSums_row Go.Ab.lSums_plain
#print axioms lSums_holds
end Go.Proofs.Ytbmhiadpagpjmaa
