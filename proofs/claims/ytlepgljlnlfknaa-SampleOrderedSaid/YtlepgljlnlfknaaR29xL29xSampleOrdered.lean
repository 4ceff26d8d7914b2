/- The row of L29_SampleOrdered, from its plain law. Printed by row.py. -/
import Derived.Test.YtlepgljlnlfknaaR29
import Derived.Test.YtlepgljlnlfknaaRows
namespace Go.Proofs.Ytlepgljlnlfknaa
open Go.Ab
set_option linter.unusedVariables false
theorem own : ownKnob Try.prog.godebug = none := by kernel_rfl
theorem laidOut : laidOutB Try.prog = true := by kernel_rfl

theorem L29_SampleOrdered_key (hs : ∀ (a0 : List (T_api_Timed)), (okSl ok_T_api_Timed) a0 → ∃ F, L29_SampleOrdered F a0 = some true) : ∀ avs, FitAll Try.prog Try.f4.params.toList [[.sl true [.int .i64, .int .i64, .int .i64, .int .i64, .str, .int .i64, .int .i64, .sl false [.str], .int .i64, .int .i64]]] avs → Triple Try.prog 4 [] avs [] (.bool true) := by
  intro avs h
  obtain ⟨x, rfl, hx⟩ := (encAll_cons (enc_lA enc_T_api_Timed) encAll_nil) avs h
  obtain ⟨F, hF⟩ := hs x.1 hx.1
  exact L29_SampleOrdered_ok F x.1 true hF

set_option maxRecDepth 100000 in
theorem L29_SampleOrdered_row (hs : ∀ (a0 : List (T_api_Timed)), (okSl ok_T_api_Timed) a0 → ∃ F, L29_SampleOrdered F a0 = some true) : Rows.SampleOrderedSaid :=
  OpenClaim.holds_of_wide 4 Try.f4 rfl rfl rfl rfl rfl rfl rfl ⟨rfl, rfl, rfl, rfl, rfl⟩ rfl rfl rfl rfl rfl (by kernel_rfl) Try.func4 (by kernel_rfl)
    (of_decide_eq_true (by kernel_rfl)) (by unfold Func.isWrapper; rw [if_neg (by decide +kernel)]; exact ⟨rfl, rfl⟩)
    (fun os started H enc _ => returnsInHanded_of_change (C := Try.checked) (s := Rows.sampleOrderedSpec) own started (by kernel_rfl) Try.func4
      (ChangeSpec.witness6 (enc := enc) (C := Try.checked) false ⟨#[], #[.slice none 0 0], []⟩ 8 (by kernel_rfl) (by kernel_rfl) (by kernel_rfl) (by kernel_rfl))
      (fun W base args ds gs before hval hW _ _ => law_contract (n := 12) (tb := 4) laidOut rfl (by kernel_rfl) (sss := [[.sl true [.int .i64, .int .i64, .int .i64, .int .i64, .str, .int .i64, .int .i64, .sl false [.str], .int .i64, .int .i64]]]) (by kernel_rfl) (by kernel_rfl) (by kernel_rfl)
        (fun ds h => match ds, h with | [_], _ => ⟨rfl, rfl, rfl⟩) (L29_SampleOrdered_key hs) hval hW))
end Go.Proofs.Ytlepgljlnlfknaa
