/- CodecWrites returns true for every input, and its arguments read behind the call as before. No conditions. -/
import Derived.Test.YtbmhiadpagpjmaaR5xlWrites
import Derived.Test.YtbmhiadpagpjmaaC05d
namespace Go.Proofs.Ytbmhiadpagpjmaa
theorem lWrites_holds : Rows.CodecWritesSaid := lWrites_row Go.Ab.lWrites_plain
#print axioms lWrites_holds
end Go.Proofs.Ytbmhiadpagpjmaa
