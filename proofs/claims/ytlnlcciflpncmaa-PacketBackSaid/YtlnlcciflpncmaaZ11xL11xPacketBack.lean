/- PacketBack returns true for every input, and its arguments read behind the call as before. No conditions. -/
import Derived.Test.YtlnlcciflpncmaaR11xL11xPacketBack
import Derived.Test.YtlnlcciflpncmaaC11b
namespace Go.Proofs.Ytlnlcciflpncmaa
theorem L11_PacketBack_holds : Rows.PacketBackSaid := L11_PacketBack_row Go.Ab.L11_PacketBack_plain
#print axioms L11_PacketBack_holds
end Go.Proofs.Ytlnlcciflpncmaa
