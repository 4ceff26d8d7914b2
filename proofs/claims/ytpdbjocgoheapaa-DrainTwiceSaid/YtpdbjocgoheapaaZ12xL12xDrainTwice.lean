/- DrainTwice returns true for every input, and its arguments read behind the call as before. No conditions. -/
import Derived.Test.YtpdbjocgoheapaaR12xL12xDrainTwice
import Derived.Test.YtpdbjocgoheapaaC12d
namespace Go.Proofs.Ytpdbjocgoheapaa
theorem L12_DrainTwice_holds : Rows.DrainTwiceSaid := L12_DrainTwice_row Go.Ab.L12_DrainTwice_plain
#print axioms L12_DrainTwice_holds
end Go.Proofs.Ytpdbjocgoheapaa
