/- DrainCollects returns true for every input, and its arguments read behind the call as before. No conditions. -/
import Derived.Test.YtpdbjocgoheapaaR12xL12xDrainCollects
import Derived.Test.YtpdbjocgoheapaaC12d
namespace Go.Proofs.Ytpdbjocgoheapaa
theorem L12_DrainCollects_holds : Rows.DrainCollectsSaid := L12_DrainCollects_row Go.Ab.L12_DrainCollects_plain
#print axioms L12_DrainCollects_holds
end Go.Proofs.Ytpdbjocgoheapaa
