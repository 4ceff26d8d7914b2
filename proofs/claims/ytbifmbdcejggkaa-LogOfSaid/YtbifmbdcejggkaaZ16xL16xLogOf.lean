/- LogOf returns true for every input, and its arguments read behind the call as before. No conditions. -/
import Derived.Test.YtbifmbdcejggkaaR16xL16xLogOf
import Derived.Test.YtbifmbdcejggkaaC16e
namespace Go.Proofs.Ytbifmbdcejggkaa
theorem L16_LogOf_holds : Rows.LogOfSaid := L16_LogOf_row Go.Ab.L16_LogOf_plain
#print axioms L16_LogOf_holds
end Go.Proofs.Ytbifmbdcejggkaa
