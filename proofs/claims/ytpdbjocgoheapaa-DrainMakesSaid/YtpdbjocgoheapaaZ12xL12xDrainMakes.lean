/- DrainMakes returns true for every input, and its arguments read behind the call as before. No conditions. -/
import Derived.Test.YtpdbjocgoheapaaR12xL12xDrainMakes
import Derived.Test.YtpdbjocgoheapaaC12
namespace Go.Proofs.Ytpdbjocgoheapaa
theorem L12_DrainMakes_holds : Rows.DrainMakesSaid := L12_DrainMakes_row Go.Ab.L12_DrainMakes_plain
#print axioms L12_DrainMakes_holds
end Go.Proofs.Ytpdbjocgoheapaa
