/- PacketSplits returns true for every input, and its arguments read behind the call as before. No conditions. -/
import Derived.Test.YtlnlcciflpncmaaR11xL11xPacketSplits
import Derived.Test.YtlnlcciflpncmaaC11
namespace Go.Proofs.Ytlnlcciflpncmaa
theorem L11_PacketSplits_holds : Rows.PacketSplitsSaid := L11_PacketSplits_row Go.Ab.L11_PacketSplits_plain
#print axioms L11_PacketSplits_holds
end Go.Proofs.Ytlnlcciflpncmaa
