/- The row of L11_PacketSplits, from its plain law. Printed by row.py. -/
import Derived.Test.YtlnlcciflpncmaaR11
import Derived.Test.YtlnlcciflpncmaaP11xL11xPacketSplits
import Derived.Test.YtlnlcciflpncmaaRows
namespace Go.Proofs.Ytlnlcciflpncmaa
open Go.Ab
set_option linter.unusedVariables false
theorem own : ownKnob Try.prog.godebug = none := by kernel_rfl
theorem laidOut : laidOutB Try.prog = true := by kernel_rfl

set_option maxRecDepth 100000 in
theorem L11_PacketSplits_key (hs : ∀ (a0 : T_api_Packet) (a1 : Int), ok_T_api_Packet a0 → okI64 a1 → ∃ F, L11_PacketSplits F a0 a1 = some true) : ∀ avs, FitAll Try.prog Try.f10.params.toList [[.int .i64, .int .i64, .int .i64, .sl true [.int .i64, .int .i64, .str, .int .i64, .int .i64, .sl false [.str]]], [.int .i64]] avs → Triple Try.prog 10 [] avs [] (.bool true) := by
  intro avs h
  obtain ⟨x, rfl, hx⟩ := (encAll_cons enc_T_api_Packet (encAll_cons enc_i64 encAll_nil)) avs h
  obtain ⟨F, hF⟩ := hs x.1 x.2.1 hx.1 hx.2.1
  exact L11_PacketSplits_ok F x.1 x.2.1 true hF

set_option maxRecDepth 100000 in
theorem L11_PacketSplits_row (hs : ∀ (a0 : T_api_Packet) (a1 : Int), ok_T_api_Packet a0 → okI64 a1 → ∃ F, L11_PacketSplits F a0 a1 = some true) : Rows.PacketSplitsSaid :=
  OpenClaim.holds_of_wide 10 Try.f10 rfl rfl rfl rfl rfl rfl rfl ⟨rfl, rfl, rfl, rfl, rfl⟩ rfl rfl rfl rfl rfl (by kernel_rfl) Try.func10 (by kernel_rfl)
    (of_decide_eq_true (by kernel_rfl)) (by unfold Func.isWrapper; rw [if_neg (by decide +kernel)]; exact ⟨rfl, rfl⟩)
    (fun os started H enc _ => returnsInHanded_of_change (C := Try.checked) (s := Rows.packetSplitsSpec) own started (by kernel_rfl) Try.func10
      (ChangeSpec.witness6 (enc := enc) (C := Try.checked) false ⟨#[], #[.agg #[.int .i64 0, .int .i64 0, .int .i64 0, .slice none 0 0], .int .i64 0], []⟩ 8 (by kernel_rfl) (by kernel_rfl) (by kernel_rfl) (by kernel_rfl))
      (fun W base args ds gs before hval hW _ _ => law_contract (n := 12) (tb := 4) laidOut rfl (by kernel_rfl) (sss := [[.int .i64, .int .i64, .int .i64, .sl true [.int .i64, .int .i64, .str, .int .i64, .int .i64, .sl false [.str]]], [.int .i64]]) (by kernel_rfl) (by kernel_rfl) (by kernel_rfl)
        (fun ds h => match ds, h with | [_, _], _ => ⟨rfl, rfl, rfl⟩) (L11_PacketSplits_key hs) hval hW))
end Go.Proofs.Ytlnlcciflpncmaa
