/- CodecReads returns true for every input, and its arguments read behind the call as before. No conditions. -/
import Derived.Test.YtbmhiadpagpjmaaR5xlReads
import Derived.Test.YtbmhiadpagpjmaaC05d
namespace Go.Proofs.Ytbmhiadpagpjmaa
theorem lReads_holds : Rows.CodecReadsSaid := lReads_row Go.Ab.lReads_plain
#print axioms lReads_holds
end Go.Proofs.Ytbmhiadpagpjmaa
