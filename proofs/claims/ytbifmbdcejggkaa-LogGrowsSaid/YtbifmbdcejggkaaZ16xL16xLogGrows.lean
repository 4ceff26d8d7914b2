/- LogGrows returns true for every input, and its arguments read behind the call as before. No conditions. -/
import Derived.Test.YtbifmbdcejggkaaR16xL16xLogGrows
import Derived.Test.YtbifmbdcejggkaaC16h
namespace Go.Proofs.Ytbifmbdcejggkaa
theorem L16_LogGrows_holds : Rows.LogGrowsSaid := L16_LogGrows_row Go.Ab.L16_LogGrows_plain
#print axioms L16_LogGrows_holds
end Go.Proofs.Ytbifmbdcejggkaa
