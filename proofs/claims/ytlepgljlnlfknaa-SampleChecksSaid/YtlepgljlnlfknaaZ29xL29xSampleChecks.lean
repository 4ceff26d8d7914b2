/- SampleChecks returns true for every input, and its arguments read behind the call as before. No conditions. -/
import Derived.Test.YtlepgljlnlfknaaR29xL29xSampleChecks
import Derived.Test.YtlepgljlnlfknaaC29b
namespace Go.Proofs.Ytlepgljlnlfknaa
theorem L29_SampleChecks_holds : Rows.SampleChecksSaid := L29_SampleChecks_row Go.Ab.L29_SampleChecks_plain
#print axioms L29_SampleChecks_holds
end Go.Proofs.Ytlepgljlnlfknaa
