/- ProducerTwice returns true for every input, and its arguments read behind the call as before. No conditions. -/
import Derived.Test.YtdpgdpjoemdkjaaR10xL10xProducerTwice
import Derived.Test.YtdpgdpjoemdkjaaC10c
namespace Go.Proofs.Ytdpgdpjoemdkjaa
theorem L10_ProducerTwice_holds : Rows.ProducerTwiceSaid := L10_ProducerTwice_row Go.Ab.L10_ProducerTwice_plain
#print axioms L10_ProducerTwice_holds
end Go.Proofs.Ytdpgdpjoemdkjaa
