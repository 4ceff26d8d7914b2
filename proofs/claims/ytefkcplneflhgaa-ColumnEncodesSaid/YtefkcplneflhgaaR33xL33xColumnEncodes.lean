/- The row of L33_ColumnEncodes, from its plain law. Printed by row.py. -/
import Derived.Test.YtefkcplneflhgaaR33
import Derived.Test.YtefkcplneflhgaaP33xL33xColumnEncodes
import Derived.Test.YtefkcplneflhgaaRows
namespace Go.Proofs.Ytefkcplneflhgaa
open Go.Ab
set_option linter.unusedVariables false
theorem own : ownKnob Try.prog.godebug = none := by kernel_rfl
theorem laidOut : laidOutB Try.prog = true := by kernel_rfl

set_option maxRecDepth 100000 in
theorem L33_ColumnEncodes_key (hs : ∀ (a0 : Int) (a1 : List (T_api_Value)), okI64 a0 → (okSl ok_T_api_Value) a1 → ∃ F, L33_ColumnEncodes F a0 a1 = some true) : ∀ avs, FitAll Try.prog Try.f4.params.toList [[.int .i64], [.sl true [.int .i64, .int .i64, .str]]] avs → Triple Try.prog 4 [] avs [] (.bool true) := by
  intro avs h
  obtain ⟨x, rfl, hx⟩ := (encAll_cons enc_i64 (encAll_cons (enc_lA enc_T_api_Value) encAll_nil)) avs h
  obtain ⟨F, hF⟩ := hs x.1 x.2.1 hx.1 hx.2.1
  exact L33_ColumnEncodes_ok F x.1 x.2.1 true hF

set_option maxRecDepth 100000 in
theorem L33_ColumnEncodes_row (hs : ∀ (a0 : Int) (a1 : List (T_api_Value)), okI64 a0 → (okSl ok_T_api_Value) a1 → ∃ F, L33_ColumnEncodes F a0 a1 = some true) : Rows.ColumnEncodesSaid :=
  OpenClaim.holds_of_wide 4 Try.f4 rfl rfl rfl rfl rfl rfl rfl ⟨rfl, rfl, rfl, rfl, rfl⟩ rfl rfl rfl rfl rfl (by kernel_rfl) Try.func4 (by kernel_rfl)
    (of_decide_eq_true (by kernel_rfl)) (by unfold Func.isWrapper; rw [if_neg (by decide +kernel)]; exact ⟨rfl, rfl⟩)
    (fun os started H enc _ => returnsInHanded_of_change_sized (C := Try.checked) (s := Rows.columnEncodesSpec) own started (by kernel_rfl) Try.func4
      (ChangeSpec.witness6 (enc := enc) (C := Try.checked) false ⟨#[], #[.int .i64 0, .slice none 0 0], []⟩ 8 (by kernel_rfl) (by kernel_rfl) (by kernel_rfl) (by kernel_rfl))
      (fun W base args ds gs before hval hW _ hz _ => law_contract (n := 12) (tb := 4) laidOut rfl (by kernel_rfl) (sss := [[.int .i64], [.sl true [.int .i64, .int .i64, .str]]]) (by kernel_rfl) (by kernel_rfl) (by kernel_rfl)
        (fun ds h => match ds, h with | [_, _], _ => ⟨rfl, rfl, rfl⟩) (L33_ColumnEncodes_key hs) hval hW hz))
end Go.Proofs.Ytefkcplneflhgaa
