/- The row of L12_DrainChecks, from its plain law. Printed by row.py. -/
import Derived.Test.YtpdbjocgoheapaaR12
import Derived.Test.YtpdbjocgoheapaaP12xL12xDrainChecks
import Derived.Test.YtpdbjocgoheapaaRows
namespace Go.Proofs.Ytpdbjocgoheapaa
open Go.Ab
set_option linter.unusedVariables false
theorem own : ownKnob Try.prog.godebug = none := by kernel_rfl
theorem laidOut : laidOutB Try.prog = true := by kernel_rfl

set_option maxRecDepth 100000 in
theorem L12_DrainChecks_key (hs : ∀ (a0 : T_api_Service) (a1 : Int), ok_T_api_Service a0 → okI64 a1 → ∃ F, L12_DrainChecks F a0 a1 = some true) : ∀ avs, FitAll Try.prog Try.f4.params.toList [[.sl true [.int .i64, .str, .int .i64], .sl false [.int .i64], .sl true [.int .i64, .int .i64, .int .i64, .sl true [.int .i64, .int .i64, .str, .int .i64, .int .i64, .sl false [.str]]]], [.int .i64]] avs → Triple Try.prog 4 [] avs [] (.bool true) := by
  intro avs h
  obtain ⟨x, rfl, hx⟩ := (encAll_cons enc_T_api_Service (encAll_cons enc_i64 encAll_nil)) avs h
  obtain ⟨F, hF⟩ := hs x.1 x.2.1 hx.1 hx.2.1
  exact L12_DrainChecks_ok F x.1 x.2.1 true hF

set_option maxRecDepth 100000 in
theorem L12_DrainChecks_row (hs : ∀ (a0 : T_api_Service) (a1 : Int), ok_T_api_Service a0 → okI64 a1 → ∃ F, L12_DrainChecks F a0 a1 = some true) : Rows.DrainChecksSaid :=
  OpenClaim.holds_of_wide 4 Try.f4 rfl rfl rfl rfl rfl rfl rfl ⟨rfl, rfl, rfl, rfl, rfl⟩ rfl rfl rfl rfl rfl (by kernel_rfl) Try.func4 (by kernel_rfl)
    (of_decide_eq_true (by kernel_rfl)) (by unfold Func.isWrapper; rw [if_neg (by decide +kernel)]; exact ⟨rfl, rfl⟩)
    (fun os started H enc _ => returnsInHanded_of_change_sized (C := Try.checked) (s := Rows.drainChecksSpec) own started (by kernel_rfl) Try.func4
      (ChangeSpec.witness6 (enc := enc) (C := Try.checked) false ⟨#[], #[.agg #[.slice none 0 0, .slice none 0 0, .slice none 0 0], .int .i64 0], []⟩ 8 (by kernel_rfl) (by kernel_rfl) (by kernel_rfl) (by kernel_rfl))
      (fun W base args ds gs before hval hW _ hz _ => law_contract (n := 12) (tb := 4) laidOut rfl (by kernel_rfl) (sss := [[.sl true [.int .i64, .str, .int .i64], .sl false [.int .i64], .sl true [.int .i64, .int .i64, .int .i64, .sl true [.int .i64, .int .i64, .str, .int .i64, .int .i64, .sl false [.str]]]], [.int .i64]]) (by kernel_rfl) (by kernel_rfl) (by kernel_rfl)
        (fun ds h => match ds, h with | [_, _], _ => ⟨rfl, rfl, rfl⟩) (L12_DrainChecks_key hs) hval hW hz))
end Go.Proofs.Ytpdbjocgoheapaa
