/- LogCounts returns true for every input, and its arguments read behind the call as before. No conditions. -/
import Derived.Test.YtbifmbdcejggkaaR16xL16xLogCounts
import Derived.Test.YtbifmbdcejggkaaC16i
namespace Go.Proofs.Ytbifmbdcejggkaa
theorem L16_LogCounts_holds : Rows.LogCountsSaid := L16_LogCounts_row Go.Ab.L16_LogCounts_plain
#print axioms L16_LogCounts_holds
end Go.Proofs.Ytbifmbdcejggkaa
