/- Packets: back and unique. -/
import Derived.Test.YtlnlcciflpncmaaB11j
import Derived.Test.YtlnlcciflpncmaaC11
namespace Go.Ab
open Go
set_option linter.unusedVariables false

theorem L11_PacketUnique_plain : ∀ (a0 : List (Int)), (okSl okU8) a0 → ∃ F, L11_PacketUnique F a0 = some true := by
  intro b hb
  refine ⟨200000, ?_⟩
  unfold L11_PacketUnique
  by_cases hl : (b.length : Int) > 600
  · rw [dec_t hl]; simp only [cond_true, Option.bind_some, lives11]
  rw [dec_f hl, cond_false, packet_Decode_eq hb.1 (by omega), Option.bind_some]
  by_cases hz : (pDecS b).2.2 ≠ 0
  · obtain ⟨k1, k2⟩ := pDec_fail hz
    rw [bne_t hz, k1, k2]; simp only [cond_true, BEq.rfl, pk0, List.length_nil, Option.bind_some, lives11]; rfl
  · obtain ⟨k1, k2, k3, k4, k5⟩ := pDec_zero hb.1 (show (pDecS b).2.2 = 0 by omega)
    have hp := packS_zero k1
    rw [bne_f (by omega), cond_false, packet_Encode_eq (by omega), Option.bind_some, packet_Check_eq (by omega), k1, k2]
    simp only [Option.bind_some, BEq.rfl, cond_true]
    rw [dec_t k3, cond_true, dec_t k4, cond_true, need_t ⟨by omega, k4⟩, Option.bind_some, sub_takeN (by omega), k5]
    simp only [BEq.rfl, cond_true, lives11, Option.bind_some]
end Go.Ab
