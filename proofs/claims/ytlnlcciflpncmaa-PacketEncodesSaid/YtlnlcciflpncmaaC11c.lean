/- Packets: both encoders, both decoders. -/
import Derived.Test.YtlnlcciflpncmaaB11k
import Derived.Test.YtlnlcciflpncmaaC11
namespace Go.Ab
open Go
set_option linter.unusedVariables false
theorem L11_PacketEncodes_plain : ∀ (a0 : T_api_Packet), ok_T_api_Packet a0 → ∃ F, L11_PacketEncodes F a0 = some true := by
 intro p _
 refine ⟨200000, ?_⟩
 unfold L11_PacketEncodes
 rcases few_cases p with h | ⟨h, h1, h2⟩
 ·rw [h]; simp only [Option.bind_some, Bool.not_false, cond_true, lives11]
 rw [h, packet_Encode_eq (by omega), R11_Encode_eq (by omega)]
 simp only [Option.bind_some, Bool.not_true, cond_false, BEq.rfl, cond_true, lives11]
end Go.Ab
