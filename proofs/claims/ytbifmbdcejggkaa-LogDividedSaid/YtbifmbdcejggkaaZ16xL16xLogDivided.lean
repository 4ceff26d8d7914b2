/- LogDivided returns true for every input, and its arguments read behind the call as before. No conditions. -/
import Derived.Test.YtbifmbdcejggkaaR16xL16xLogDivided
import Derived.Test.YtbifmbdcejggkaaC16g
namespace Go.Proofs.Ytbifmbdcejggkaa
theorem L16_LogDivided_holds : Rows.LogDividedSaid := L16_LogDivided_row Go.Ab.L16_LogDivided_plain
#print axioms L16_LogDivided_holds
end Go.Proofs.Ytbifmbdcejggkaa
