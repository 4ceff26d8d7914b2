/- CodecShort returns true for every input, and its arguments read behind the call as before. No conditions. -/
import Derived.Test.YtbmhiadpagpjmaaR5xlShort
import Derived.Test.YtbmhiadpagpjmaaC05d
namespace Go.Proofs.Ytbmhiadpagpjmaa
theorem lShort_holds : Rows.CodecShortSaid := lShort_row Go.Ab.lShort_plain
#print axioms lShort_holds
end Go.Proofs.Ytbmhiadpagpjmaa
