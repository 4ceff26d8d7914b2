/- FileCrash returns true for every input, and its arguments read behind the call as before. No conditions. -/
import Derived.Test.YtoeengmnmhhpgaaR15xL15xFileCrash
import Derived.Test.YtoeengmnmhhpgaaC15u
namespace Go.Proofs.Ytoeengmnmhhpgaa
theorem L15_FileCrash_holds : Rows.FileCrashSaid := L15_FileCrash_row Go.Ab.L15_FileCrash_plain
#print axioms L15_FileCrash_holds
end Go.Proofs.Ytoeengmnmhhpgaa
