/- FileBack returns true for every input, and its arguments read behind the call as before. No conditions. -/
import Derived.Test.YtoeengmnmhhpgaaR15xL15xFileBack
import Derived.Test.YtoeengmnmhhpgaaC15s
namespace Go.Proofs.Ytoeengmnmhhpgaa
theorem L15_FileBack_holds : Rows.FileBackSaid := L15_FileBack_row Go.Ab.L15_FileBack_plain
#print axioms L15_FileBack_holds
end Go.Proofs.Ytoeengmnmhhpgaa
