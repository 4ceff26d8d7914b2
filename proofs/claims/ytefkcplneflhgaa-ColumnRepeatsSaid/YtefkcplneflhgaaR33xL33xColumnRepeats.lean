/- The row of L33_ColumnRepeats, from its plain law. Printed by row.py. -/
import Derived.Test.YtefkcplneflhgaaR33
import Derived.Test.YtefkcplneflhgaaP33xL33xColumnRepeats
import Derived.Test.YtefkcplneflhgaaRows
namespace Go.Proofs.Ytefkcplneflhgaa
open Go.Ab
set_option linter.unusedVariables false
theorem own : ownKnob Try.prog.godebug = none := by kernel_rfl
theorem laidOut : laidOutB Try.prog = true := by kernel_rfl

set_option maxRecDepth 100000 in
theorem L33_ColumnRepeats_key (hs : ∀ (a0 : Int) (a1 : T_api_Value) (a2 : Int), okI64 a0 → ok_T_api_Value a1 → okU16 a2 → ∃ F, L33_ColumnRepeats F a0 a1 a2 = some true) : ∀ avs, FitAll Try.prog Try.f7.params.toList [[.int .i64], [.int .i64, .int .i64, .str], [.int .u16]] avs → Triple Try.prog 7 [] avs [] (.bool true) := by
  intro avs h
  obtain ⟨x, rfl, hx⟩ := (encAll_cons enc_i64 (encAll_cons enc_T_api_Value (encAll_cons enc_u16 encAll_nil))) avs h
  obtain ⟨F, hF⟩ := hs x.1 x.2.1 x.2.2.1 hx.1 hx.2.1 hx.2.2.1
  exact L33_ColumnRepeats_ok F x.1 x.2.1 x.2.2.1 true hF

set_option maxRecDepth 100000 in
theorem L33_ColumnRepeats_row (hs : ∀ (a0 : Int) (a1 : T_api_Value) (a2 : Int), okI64 a0 → ok_T_api_Value a1 → okU16 a2 → ∃ F, L33_ColumnRepeats F a0 a1 a2 = some true) : Rows.ColumnRepeatsSaid :=
  OpenClaim.holds_of_wide 7 Try.f7 rfl rfl rfl rfl rfl rfl rfl ⟨rfl, rfl, rfl, rfl, rfl⟩ rfl rfl rfl rfl rfl (by kernel_rfl) Try.func7 (by kernel_rfl)
    (of_decide_eq_true (by kernel_rfl)) (by unfold Func.isWrapper; rw [if_neg (by decide +kernel)]; exact ⟨rfl, rfl⟩)
    (fun os started H enc _ => returnsInHanded_of_change_sized (C := Try.checked) (s := Rows.columnRepeatsSpec) own started (by kernel_rfl) Try.func7
      (ChangeSpec.witness6 (enc := enc) (C := Try.checked) false ⟨#[], #[.int .i64 0, .agg #[.int .i64 0, .int .i64 0, .string ⟨#[]⟩], .int .u16 0], []⟩ 8 (by kernel_rfl) (by kernel_rfl) (by kernel_rfl) (by kernel_rfl))
      (fun W base args ds gs before hval hW _ hz _ => law_contract (n := 12) (tb := 4) laidOut rfl (by kernel_rfl) (sss := [[.int .i64], [.int .i64, .int .i64, .str], [.int .u16]]) (by kernel_rfl) (by kernel_rfl) (by kernel_rfl)
        (fun ds h => match ds, h with | [_, _, _], _ => ⟨rfl, rfl, rfl⟩) (L33_ColumnRepeats_key hs) hval hW hz))
end Go.Proofs.Ytefkcplneflhgaa
