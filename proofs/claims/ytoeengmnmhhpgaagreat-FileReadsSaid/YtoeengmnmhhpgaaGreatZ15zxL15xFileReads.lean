/- FileReads returns true for every input, and its arguments read behind the call as before. No conditions. -/
import Derived.Test.YtoeengmnmhhpgaaGreatR15zxL15xFileReads
import Derived.Test.YtoeengmnmhhpgaaGreatC15zg
namespace Go.Proofs.YtoeengmnmhhpgaaGreat
theorem L15_FileReads_holds : Rows.FileReadsSaid := L15_FileReads_row Go.Ab.L15_FileReads_plain
#print axioms L15_FileReads_holds
end Go.Proofs.YtoeengmnmhhpgaaGreat
