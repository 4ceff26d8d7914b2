/- ProducerChecks returns true for every input, and its arguments read behind the call as before. No conditions. -/
import Derived.Test.YtdpgdpjoemdkjaaR10xL10xProducerChecks
import Derived.Test.YtdpgdpjoemdkjaaC10c
namespace Go.Proofs.Ytdpgdpjoemdkjaa
theorem L10_ProducerChecks_holds : Rows.ProducerChecksSaid := L10_ProducerChecks_row Go.Ab.L10_ProducerChecks_plain
#print axioms L10_ProducerChecks_holds
end Go.Proofs.Ytdpgdpjoemdkjaa
