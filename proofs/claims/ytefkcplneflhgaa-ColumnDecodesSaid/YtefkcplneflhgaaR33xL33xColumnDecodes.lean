/- The row of L33_ColumnDecodes, from its plain law. Printed by row.py. -/
import Derived.Test.YtefkcplneflhgaaR33
import Derived.Test.YtefkcplneflhgaaP33xL33xColumnDecodes
import Derived.Test.YtefkcplneflhgaaRows
namespace Go.Proofs.Ytefkcplneflhgaa
open Go.Ab
set_option linter.unusedVariables false
theorem own : ownKnob Try.prog.godebug = none := by kernel_rfl
theorem laidOut : laidOutB Try.prog = true := by kernel_rfl

set_option maxRecDepth 100000 in
theorem L33_ColumnDecodes_key (hs : ∀ (a0 : T_api_Packed), ok_T_api_Packed a0 → ∃ F, L33_ColumnDecodes F a0 = some true) : ∀ avs, FitAll Try.prog Try.f5.params.toList [[.int .i64, .int .i64, .sl false [.int .u8]]] avs → Triple Try.prog 5 [] avs [] (.bool true) := by
  intro avs h
  obtain ⟨x, rfl, hx⟩ := (encAll_cons enc_T_api_Packed encAll_nil) avs h
  obtain ⟨F, hF⟩ := hs x.1 hx.1
  exact L33_ColumnDecodes_ok F x.1 true hF

set_option maxRecDepth 100000 in
theorem L33_ColumnDecodes_row (hs : ∀ (a0 : T_api_Packed), ok_T_api_Packed a0 → ∃ F, L33_ColumnDecodes F a0 = some true) : Rows.ColumnDecodesSaid :=
  OpenClaim.holds_of_wide 5 Try.f5 rfl rfl rfl rfl rfl rfl rfl ⟨rfl, rfl, rfl, rfl, rfl⟩ rfl rfl rfl rfl rfl (by kernel_rfl) Try.func5 (by kernel_rfl)
    (of_decide_eq_true (by kernel_rfl)) (by unfold Func.isWrapper; rw [if_neg (by decide +kernel)]; exact ⟨rfl, rfl⟩)
    (fun os started H enc _ => returnsInHanded_of_change_sized (C := Try.checked) (s := Rows.columnDecodesSpec) own started (by kernel_rfl) Try.func5
      (ChangeSpec.witness6 (enc := enc) (C := Try.checked) false ⟨#[], #[.agg #[.int .i64 0, .int .i64 0, .slice none 0 0]], []⟩ 8 (by kernel_rfl) (by kernel_rfl) (by kernel_rfl) (by kernel_rfl))
      (fun W base args ds gs before hval hW _ hz _ => law_contract (n := 12) (tb := 4) laidOut rfl (by kernel_rfl) (sss := [[.int .i64, .int .i64, .sl false [.int .u8]]]) (by kernel_rfl) (by kernel_rfl) (by kernel_rfl)
        (fun ds h => match ds, h with | [_], _ => ⟨rfl, rfl, rfl⟩) (L33_ColumnDecodes_key hs) hval hW hz))
end Go.Proofs.Ytefkcplneflhgaa
