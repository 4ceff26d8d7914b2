/- DrainKeeps returns true for every input, and its arguments read behind the call as before. No conditions. -/
import Derived.Test.YtpdbjocgoheapaaR12xL12xDrainKeeps
import Derived.Test.YtpdbjocgoheapaaC12e
namespace Go.Proofs.Ytpdbjocgoheapaa
theorem L12_DrainKeeps_holds : Rows.DrainKeepsSaid := L12_DrainKeeps_row Go.Ab.L12_DrainKeeps_plain
#print axioms L12_DrainKeeps_holds
end Go.Proofs.Ytpdbjocgoheapaa
