/- ProducerPlays returns true for every input, and its arguments read behind the call as before. No conditions. -/
import Derived.Test.YtdpgdpjoemdkjaaR10xL10xProducerPlays
import Derived.Test.YtdpgdpjoemdkjaaC10c
namespace Go.Proofs.Ytdpgdpjoemdkjaa
theorem L10_ProducerPlays_holds : Rows.ProducerPlaysSaid := L10_ProducerPlays_row Go.Ab.L10_ProducerPlays_plain
#print axioms L10_ProducerPlays_holds
end Go.Proofs.Ytdpgdpjoemdkjaa
