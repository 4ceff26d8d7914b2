/- DrainOrder returns true for every input, and its arguments read behind the call as before. No conditions. -/
import Derived.Test.YtpdbjocgoheapaaR12xL12xDrainOrder
import Derived.Test.YtpdbjocgoheapaaC12c
namespace Go.Proofs.Ytpdbjocgoheapaa
theorem L12_DrainOrder_holds : Rows.DrainOrderSaid := L12_DrainOrder_row Go.Ab.L12_DrainOrder_plain
#print axioms L12_DrainOrder_holds
end Go.Proofs.Ytpdbjocgoheapaa
