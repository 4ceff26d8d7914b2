/- ProducerAccounts returns true for every input, and its arguments read behind the call as before. No conditions. -/
import Derived.Test.YtdpgdpjoemdkjaaR10xL10xProducerAccounts
import Derived.Test.YtdpgdpjoemdkjaaC10c
namespace Go.Proofs.Ytdpgdpjoemdkjaa
theorem L10_ProducerAccounts_holds : Rows.ProducerAccountsSaid := L10_ProducerAccounts_row Go.Ab.L10_ProducerAccounts_plain
#print axioms L10_ProducerAccounts_holds
end Go.Proofs.Ytdpgdpjoemdkjaa
