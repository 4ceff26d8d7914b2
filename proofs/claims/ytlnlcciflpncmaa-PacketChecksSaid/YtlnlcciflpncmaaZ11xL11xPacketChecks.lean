/- PacketChecks returns true for every input, and its arguments read behind the call as before. No conditions. -/
import Derived.Test.YtlnlcciflpncmaaR11xL11xPacketChecks
import Derived.Test.YtlnlcciflpncmaaC11
namespace Go.Proofs.Ytlnlcciflpncmaa
theorem L11_PacketChecks_holds : Rows.PacketChecksSaid := L11_PacketChecks_row Go.Ab.L11_PacketChecks_plain
#print axioms L11_PacketChecks_holds
end Go.Proofs.Ytlnlcciflpncmaa
