/- PacketDecodes returns true for every input, and its arguments read behind the call as before. No conditions. -/
import Derived.Test.YtlnlcciflpncmaaR11xL11xPacketDecodes
import Derived.Test.YtlnlcciflpncmaaC11c
namespace Go.Proofs.Ytlnlcciflpncmaa
theorem L11_PacketDecodes_holds : Rows.PacketDecodesSaid := L11_PacketDecodes_row Go.Ab.L11_PacketDecodes_plain
#print axioms L11_PacketDecodes_holds
end Go.Proofs.Ytlnlcciflpncmaa
