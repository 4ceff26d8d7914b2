/- SampleDivides returns true for every input, and its arguments read behind the call as before. No conditions. -/
import Derived.Test.YtlepgljlnlfknaaR29xL29xSampleDivides
import Derived.Test.YtlepgljlnlfknaaC29b
namespace Go.Proofs.Ytlepgljlnlfknaa
theorem L29_SampleDivides_holds : Rows.SampleDividesSaid := L29_SampleDivides_row Go.Ab.L29_SampleDivides_plain
#print axioms L29_SampleDivides_holds
end Go.Proofs.Ytlepgljlnlfknaa
