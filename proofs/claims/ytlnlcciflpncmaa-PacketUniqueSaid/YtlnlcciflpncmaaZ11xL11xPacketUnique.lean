/- PacketUnique returns true for every input, and its arguments read behind the call as before. No conditions. -/
import Derived.Test.YtlnlcciflpncmaaR11xL11xPacketUnique
import Derived.Test.YtlnlcciflpncmaaC11b
namespace Go.Proofs.Ytlnlcciflpncmaa
theorem L11_PacketUnique_holds : Rows.PacketUniqueSaid := L11_PacketUnique_row Go.Ab.L11_PacketUnique_plain
#print axioms L11_PacketUnique_holds
end Go.Proofs.Ytlnlcciflpncmaa
