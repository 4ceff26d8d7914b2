/- PacketLimits returns true for every input, and its arguments read behind the call as before. No conditions. -/
import Derived.Test.YtlnlcciflpncmaaR11xL11xPacketLimits
import Derived.Test.YtlnlcciflpncmaaC11
namespace Go.Proofs.Ytlnlcciflpncmaa
theorem L11_PacketLimits_holds : Rows.PacketLimitsSaid := L11_PacketLimits_row Go.Ab.L11_PacketLimits_plain
#print axioms L11_PacketLimits_holds
end Go.Proofs.Ytlnlcciflpncmaa
