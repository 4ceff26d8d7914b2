/- DrainChecks returns true for every input, and its arguments read behind the call as before. No conditions. -/
import Derived.Test.YtpdbjocgoheapaaR12xL12xDrainChecks
import Derived.Test.YtpdbjocgoheapaaC12d
namespace Go.Proofs.Ytpdbjocgoheapaa
theorem L12_DrainChecks_holds : Rows.DrainChecksSaid := L12_DrainChecks_row Go.Ab.L12_DrainChecks_plain
#print axioms L12_DrainChecks_holds
end Go.Proofs.Ytpdbjocgoheapaa
