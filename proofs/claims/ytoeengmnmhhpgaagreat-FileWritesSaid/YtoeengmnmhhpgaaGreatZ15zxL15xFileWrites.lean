/- FileWrites returns true for every input, and its arguments read behind the call as before. No conditions. -/
import Derived.Test.YtoeengmnmhhpgaaGreatR15zxL15xFileWrites
import Derived.Test.YtoeengmnmhhpgaaGreatC15zk
namespace Go.Proofs.YtoeengmnmhhpgaaGreat
theorem L15_FileWrites_holds : Rows.FileWritesSaid := L15_FileWrites_row Go.Ab.L15_FileWrites_plain
#print axioms L15_FileWrites_holds
end Go.Proofs.YtoeengmnmhhpgaaGreat
