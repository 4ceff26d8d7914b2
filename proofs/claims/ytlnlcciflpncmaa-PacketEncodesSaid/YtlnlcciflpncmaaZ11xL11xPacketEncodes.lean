/- PacketEncodes returns true for every input, and its arguments read behind the call as before. No conditions. -/
import Derived.Test.YtlnlcciflpncmaaR11xL11xPacketEncodes
import Derived.Test.YtlnlcciflpncmaaC11c
namespace Go.Proofs.Ytlnlcciflpncmaa
theorem L11_PacketEncodes_holds : Rows.PacketEncodesSaid := L11_PacketEncodes_row Go.Ab.L11_PacketEncodes_plain
#print axioms L11_PacketEncodes_holds
end Go.Proofs.Ytlnlcciflpncmaa
