/- The row of L12_DrainTwice, from its plain law. Printed by row.py. -/
import Derived.Test.YtpdbjocgoheapaaR12
import Derived.Test.YtpdbjocgoheapaaP12xL12xDrainTwice
import Derived.Test.YtpdbjocgoheapaaRows
namespace Go.Proofs.Ytpdbjocgoheapaa
open Go.Ab
set_option linter.unusedVariables false
theorem own : ownKnob Try.prog.godebug = none := by kernel_rfl
theorem laidOut : laidOutB Try.prog = true := by kernel_rfl

set_option maxRecDepth 100000 in
theorem L12_DrainTwice_key (hs : ∀ (a0 : T_api_Service) (a1 : T_api_Packet), ok_T_api_Service a0 → ok_T_api_Packet a1 → ∃ F, L12_DrainTwice F a0 a1 = some true) : ∀ avs, FitAll Try.prog Try.f6.params.toList [[.sl true [.int .i64, .str, .int .i64], .sl false [.int .i64], .sl true [.int .i64, .int .i64, .int .i64, .sl true [.int .i64, .int .i64, .str, .int .i64, .int .i64, .sl false [.str]]]], [.int .i64, .int .i64, .int .i64, .sl true [.int .i64, .int .i64, .str, .int .i64, .int .i64, .sl false [.str]]]] avs → Triple Try.prog 6 [] avs [] (.bool true) := by
  intro avs h
  obtain ⟨x, rfl, hx⟩ := (encAll_cons enc_T_api_Service (encAll_cons enc_T_api_Packet encAll_nil)) avs h
  obtain ⟨F, hF⟩ := hs x.1 x.2.1 hx.1 hx.2.1
  exact L12_DrainTwice_ok F x.1 x.2.1 true hF

set_option maxRecDepth 100000 in
theorem L12_DrainTwice_row (hs : ∀ (a0 : T_api_Service) (a1 : T_api_Packet), ok_T_api_Service a0 → ok_T_api_Packet a1 → ∃ F, L12_DrainTwice F a0 a1 = some true) : Rows.DrainTwiceSaid :=
  OpenClaim.holds_of_wide 6 Try.f6 rfl rfl rfl rfl rfl rfl rfl ⟨rfl, rfl, rfl, rfl, rfl⟩ rfl rfl rfl rfl rfl (by kernel_rfl) Try.func6 (by kernel_rfl)
    (of_decide_eq_true (by kernel_rfl)) (by unfold Func.isWrapper; rw [if_neg (by decide +kernel)]; exact ⟨rfl, rfl⟩)
    (fun os started H enc _ => returnsInHanded_of_change_sized (C := Try.checked) (s := Rows.drainTwiceSpec) own started (by kernel_rfl) Try.func6
      (ChangeSpec.witness6 (enc := enc) (C := Try.checked) false ⟨#[], #[.agg #[.slice none 0 0, .slice none 0 0, .slice none 0 0], .agg #[.int .i64 0, .int .i64 0, .int .i64 0, .slice none 0 0]], []⟩ 8 (by kernel_rfl) (by kernel_rfl) (by kernel_rfl) (by kernel_rfl))
      (fun W base args ds gs before hval hW _ hz _ => law_contract (n := 12) (tb := 4) laidOut rfl (by kernel_rfl) (sss := [[.sl true [.int .i64, .str, .int .i64], .sl false [.int .i64], .sl true [.int .i64, .int .i64, .int .i64, .sl true [.int .i64, .int .i64, .str, .int .i64, .int .i64, .sl false [.str]]]], [.int .i64, .int .i64, .int .i64, .sl true [.int .i64, .int .i64, .str, .int .i64, .int .i64, .sl false [.str]]]]) (by kernel_rfl) (by kernel_rfl) (by kernel_rfl)
        (fun ds h => match ds, h with | [_, _], _ => ⟨rfl, rfl, rfl⟩) (L12_DrainTwice_key hs) hval hW hz))
end Go.Proofs.Ytpdbjocgoheapaa
