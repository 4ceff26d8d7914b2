/- CodecBack returns true for every input, and its arguments read behind the call as before. No conditions. -/
import Derived.Test.YtbmhiadpagpjmaaR5xlBack
import Derived.Test.YtbmhiadpagpjmaaC05d
namespace Go.Proofs.Ytbmhiadpagpjmaa
theorem lBack_holds : Rows.CodecBackSaid := lBack_row Go.Ab.lBack_plain
#print axioms lBack_holds
end Go.Proofs.Ytbmhiadpagpjmaa
