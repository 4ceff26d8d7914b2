/- SampleOf returns true for every input, and its arguments read behind the call as before. No conditions. -/
import Derived.Test.YtlepgljlnlfknaaR29xL29xSampleOf
import Derived.Test.YtlepgljlnlfknaaC29
namespace Go.Proofs.Ytlepgljlnlfknaa
theorem L29_SampleOf_holds : Rows.SampleOfSaid := L29_SampleOf_row Go.Ab.L29_SampleOf_plain
#print axioms L29_SampleOf_holds
end Go.Proofs.Ytlepgljlnlfknaa
