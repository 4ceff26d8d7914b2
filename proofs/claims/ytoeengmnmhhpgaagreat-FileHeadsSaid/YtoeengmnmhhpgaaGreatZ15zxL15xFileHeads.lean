/- FileHeads returns true for every input, and its arguments read behind the call as before. No conditions. -/
import Derived.Test.YtoeengmnmhhpgaaGreatR15zxL15xFileHeads
import Derived.Test.YtoeengmnmhhpgaaGreatC15zg
namespace Go.Proofs.YtoeengmnmhhpgaaGreat
theorem L15_FileHeads_holds : Rows.FileHeadsSaid := L15_FileHeads_row Go.Ab.L15_FileHeads_plain
#print axioms L15_FileHeads_holds
end Go.Proofs.YtoeengmnmhhpgaaGreat
