/- CodecChanges returns true for every input, and its arguments read behind the call as before. No conditions. -/
import Derived.Test.YtbmhiadpagpjmaaR5xlChanges
import Derived.Test.YtbmhiadpagpjmaaC05e
namespace Go.Proofs.Ytbmhiadpagpjmaa
theorem lChanges_holds : Rows.CodecChangesSaid := lChanges_row Go.Ab.lChanges_plain
#print axioms lChanges_holds
end Go.Proofs.Ytbmhiadpagpjmaa
