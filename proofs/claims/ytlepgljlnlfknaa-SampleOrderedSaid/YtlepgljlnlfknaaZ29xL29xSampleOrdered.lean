/- SampleOrdered returns true for every input, and its arguments read behind the call as before. No conditions. -/
import Derived.Test.YtlepgljlnlfknaaR29xL29xSampleOrdered
import Derived.Test.YtlepgljlnlfknaaC29c
namespace Go.Proofs.Ytlepgljlnlfknaa
theorem L29_SampleOrdered_holds : Rows.SampleOrderedSaid := L29_SampleOrdered_row Go.Ab.L29_SampleOrdered_plain
#print axioms L29_SampleOrdered_holds
end Go.Proofs.Ytlepgljlnlfknaa
