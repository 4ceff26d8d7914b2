/- SampleLeaves returns true for every input, and its arguments read behind the call as before. No conditions. -/
import Derived.Test.YtlepgljlnlfknaaR29xL29xSampleLeaves
import Derived.Test.YtlepgljlnlfknaaC29c
namespace Go.Proofs.Ytlepgljlnlfknaa
theorem L29_SampleLeaves_holds : Rows.SampleLeavesSaid := L29_SampleLeaves_row Go.Ab.L29_SampleLeaves_plain
#print axioms L29_SampleLeaves_holds
end Go.Proofs.Ytlepgljlnlfknaa
