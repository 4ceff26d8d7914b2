/- CodecUnique returns true for every input, and its arguments read behind the call as before. No conditions. -/
import Derived.Test.YtbmhiadpagpjmaaR5xlUnique
import Derived.Test.YtbmhiadpagpjmaaC05d
namespace Go.Proofs.Ytbmhiadpagpjmaa
theorem lUnique_holds : Rows.CodecUniqueSaid := lUnique_row Go.Ab.lUnique_plain
#print axioms lUnique_holds
end Go.Proofs.Ytbmhiadpagpjmaa
