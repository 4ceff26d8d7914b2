/- The row of L11_PacketBack, from its plain law. Printed by row.py. -/
import Derived.Test.YtlnlcciflpncmaaR11
import Derived.Test.YtlnlcciflpncmaaP11xL11xPacketBack
import Derived.Test.YtlnlcciflpncmaaRows
namespace Go.Proofs.Ytlnlcciflpncmaa
open Go.Ab
set_option linter.unusedVariables false
theorem own : ownKnob Try.prog.godebug = none := by kernel_rfl
theorem laidOut : laidOutB Try.prog = true := by kernel_rfl

set_option maxRecDepth 100000 in
theorem L11_PacketBack_key (hs : ∀ (a0 : T_api_Packet) (a1 : List (Int)), ok_T_api_Packet a0 → (okSl okU8) a1 → ∃ F, L11_PacketBack F a0 a1 = some true) : ∀ avs, FitAll Try.prog Try.f7.params.toList [[.int .i64, .int .i64, .int .i64, .sl true [.int .i64, .int .i64, .str, .int .i64, .int .i64, .sl false [.str]]], [.sl false [.int .u8]]] avs → Triple Try.prog 7 [] avs [] (.bool true) := by
  intro avs h
  obtain ⟨x, rfl, hx⟩ := (encAll_cons enc_T_api_Packet (encAll_cons (enc_lC enc_u8) encAll_nil)) avs h
  obtain ⟨F, hF⟩ := hs x.1 x.2.1 hx.1 hx.2.1
  exact L11_PacketBack_ok F x.1 x.2.1 true hF

set_option maxRecDepth 100000 in
theorem L11_PacketBack_row (hs : ∀ (a0 : T_api_Packet) (a1 : List (Int)), ok_T_api_Packet a0 → (okSl okU8) a1 → ∃ F, L11_PacketBack F a0 a1 = some true) : Rows.PacketBackSaid :=
  OpenClaim.holds_of_wide 7 Try.f7 rfl rfl rfl rfl rfl rfl rfl ⟨rfl, rfl, rfl, rfl, rfl⟩ rfl rfl rfl rfl rfl (by kernel_rfl) Try.func7 (by kernel_rfl)
    (of_decide_eq_true (by kernel_rfl)) (by unfold Func.isWrapper; rw [if_neg (by decide +kernel)]; exact ⟨rfl, rfl⟩)
    (fun os started H enc _ => returnsInHanded_of_change (C := Try.checked) (s := Rows.packetBackSpec) own started (by kernel_rfl) Try.func7
      (ChangeSpec.witness6 (enc := enc) (C := Try.checked) false ⟨#[], #[.agg #[.int .i64 0, .int .i64 0, .int .i64 0, .slice none 0 0], .slice none 0 0], []⟩ 8 (by kernel_rfl) (by kernel_rfl) (by kernel_rfl) (by kernel_rfl))
      (fun W base args ds gs before hval hW _ _ => law_contract (n := 12) (tb := 4) laidOut rfl (by kernel_rfl) (sss := [[.int .i64, .int .i64, .int .i64, .sl true [.int .i64, .int .i64, .str, .int .i64, .int .i64, .sl false [.str]]], [.sl false [.int .u8]]]) (by kernel_rfl) (by kernel_rfl) (by kernel_rfl)
        (fun ds h => match ds, h with | [_, _], _ => ⟨rfl, rfl, rfl⟩) (L11_PacketBack_key hs) hval hW))
end Go.Proofs.Ytlnlcciflpncmaa
