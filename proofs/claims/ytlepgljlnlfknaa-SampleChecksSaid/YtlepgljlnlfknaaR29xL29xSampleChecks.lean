/- The row of L29_SampleChecks, from its plain law. Printed by row.py. -/
import Derived.Test.YtlepgljlnlfknaaR29
import Derived.Test.YtlepgljlnlfknaaRows
namespace Go.Proofs.Ytlepgljlnlfknaa
open Go.Ab
set_option linter.unusedVariables false
theorem own : ownKnob Try.prog.godebug = none := by kernel_rfl
theorem laidOut : laidOutB Try.prog = true := by kernel_rfl

theorem L29_SampleChecks_key (hs : ∀ (a0 : List (T_api_Sample)) (a1 : T_api_Span) (a2 : List Int), (okSl ok_T_api_Sample) a0 → ok_T_api_Span a1 → okStr a2 → ∃ F, L29_SampleChecks F a0 a1 a2 = some true) : ∀ avs, FitAll Try.prog Try.f5.params.toList [[.sl true [.int .i64, .int .i64, .int .i64, .sl false [.str]]], [.int .i64, .int .i64], [.str]] avs → Triple Try.prog 5 [] avs [] (.bool true) := by
  intro avs h
  obtain ⟨x, rfl, hx⟩ := (encAll_cons (enc_lA enc_T_api_Sample) (encAll_cons enc_T_api_Span (encAll_cons enc_st encAll_nil))) avs h
  obtain ⟨F, hF⟩ := hs x.1 x.2.1 x.2.2.1 hx.1 hx.2.1 hx.2.2.1
  exact L29_SampleChecks_ok F x.1 x.2.1 x.2.2.1 true hF

set_option maxRecDepth 100000 in
theorem L29_SampleChecks_row (hs : ∀ (a0 : List (T_api_Sample)) (a1 : T_api_Span) (a2 : List Int), (okSl ok_T_api_Sample) a0 → ok_T_api_Span a1 → okStr a2 → ∃ F, L29_SampleChecks F a0 a1 a2 = some true) : Rows.SampleChecksSaid :=
  OpenClaim.holds_of_wide 5 Try.f5 rfl rfl rfl rfl rfl rfl rfl ⟨rfl, rfl, rfl, rfl, rfl⟩ rfl rfl rfl rfl rfl (by kernel_rfl) Try.func5 (by kernel_rfl)
    (of_decide_eq_true (by kernel_rfl)) (by unfold Func.isWrapper; rw [if_neg (by decide +kernel)]; exact ⟨rfl, rfl⟩)
    (fun os started H enc _ => returnsInHanded_of_change (C := Try.checked) (s := Rows.sampleChecksSpec) own started (by kernel_rfl) Try.func5
      (ChangeSpec.witness6 (enc := enc) (C := Try.checked) false ⟨#[], #[.slice none 0 0, .agg #[.int .i64 0, .int .i64 0], .string ⟨#[]⟩], []⟩ 8 (by kernel_rfl) (by kernel_rfl) (by kernel_rfl) (by kernel_rfl))
      (fun W base args ds gs before hval hW _ _ => law_contract (n := 12) (tb := 4) laidOut rfl (by kernel_rfl) (sss := [[.sl true [.int .i64, .int .i64, .int .i64, .sl false [.str]]], [.int .i64, .int .i64], [.str]]) (by kernel_rfl) (by kernel_rfl) (by kernel_rfl)
        (fun ds h => match ds, h with | [_, _, _], _ => ⟨rfl, rfl, rfl⟩) (L29_SampleChecks_key hs) hval hW))
end Go.Proofs.Ytlepgljlnlfknaa
