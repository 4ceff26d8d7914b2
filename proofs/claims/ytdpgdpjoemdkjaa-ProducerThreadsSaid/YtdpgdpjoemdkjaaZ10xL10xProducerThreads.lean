/- ProducerThreads returns true for every input, and its arguments read behind the call as before. No conditions. -/
import Derived.Test.YtdpgdpjoemdkjaaR10xL10xProducerThreads
import Derived.Test.YtdpgdpjoemdkjaaC10c
namespace Go.Proofs.Ytdpgdpjoemdkjaa
theorem L10_ProducerThreads_holds : Rows.ProducerThreadsSaid := L10_ProducerThreads_row Go.Ab.L10_ProducerThreads_plain
#print axioms L10_ProducerThreads_holds
end Go.Proofs.Ytdpgdpjoemdkjaa
