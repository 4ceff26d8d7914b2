/- LogReads returns true for every input, and its arguments read behind the call as before. No conditions. -/
import Derived.Test.YtbifmbdcejggkaaR16xL16xLogReads
import Derived.Test.YtbifmbdcejggkaaC16f
namespace Go.Proofs.Ytbifmbdcejggkaa
theorem L16_LogReads_holds : Rows.LogReadsSaid := L16_LogReads_row Go.Ab.L16_LogReads_plain
#print axioms L16_LogReads_holds
end Go.Proofs.Ytbifmbdcejggkaa
