/- PacketJoins returns true for every input, and its arguments read behind the call as before. No conditions. -/
import Derived.Test.YtlnlcciflpncmaaR11xL11xPacketJoins
import Derived.Test.YtlnlcciflpncmaaC11
namespace Go.Proofs.Ytlnlcciflpncmaa
theorem L11_PacketJoins_holds : Rows.PacketJoinsSaid := L11_PacketJoins_row Go.Ab.L11_PacketJoins_plain
#print axioms L11_PacketJoins_holds
end Go.Proofs.Ytlnlcciflpncmaa
