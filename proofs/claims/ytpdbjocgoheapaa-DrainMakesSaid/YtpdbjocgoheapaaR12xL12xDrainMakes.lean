/- The row of L12_DrainMakes, from its plain law. Printed by row.py. -/
import Derived.Test.YtpdbjocgoheapaaR12
import Derived.Test.YtpdbjocgoheapaaP12xL12xDrainMakes
import Derived.Test.YtpdbjocgoheapaaRows
namespace Go.Proofs.Ytpdbjocgoheapaa
open Go.Ab
set_option linter.unusedVariables false
theorem own : ownKnob Try.prog.godebug = none := by kernel_rfl
theorem laidOut : laidOutB Try.prog = true := by kernel_rfl

set_option maxRecDepth 100000 in
theorem L12_DrainMakes_key (hs : ∀ (a0 : List (T_api_Thread)), (okSl ok_T_api_Thread) a0 → ∃ F, L12_DrainMakes F a0 = some true) : ∀ avs, FitAll Try.prog Try.f3.params.toList [[.sl true [.int .i64, .str, .int .i64]]] avs → Triple Try.prog 3 [] avs [] (.bool true) := by
  intro avs h
  obtain ⟨x, rfl, hx⟩ := (encAll_cons (enc_lA enc_T_api_Thread) encAll_nil) avs h
  obtain ⟨F, hF⟩ := hs x.1 hx.1
  exact L12_DrainMakes_ok F x.1 true hF

set_option maxRecDepth 100000 in
theorem L12_DrainMakes_row (hs : ∀ (a0 : List (T_api_Thread)), (okSl ok_T_api_Thread) a0 → ∃ F, L12_DrainMakes F a0 = some true) : Rows.DrainMakesSaid :=
  OpenClaim.holds_of_wide 3 Try.f3 rfl rfl rfl rfl rfl rfl rfl ⟨rfl, rfl, rfl, rfl, rfl⟩ rfl rfl rfl rfl rfl (by kernel_rfl) Try.func3 (by kernel_rfl)
    (of_decide_eq_true (by kernel_rfl)) (by unfold Func.isWrapper; rw [if_neg (by decide +kernel)]; exact ⟨rfl, rfl⟩)
    (fun os started H enc _ => returnsInHanded_of_change (C := Try.checked) (s := Rows.drainMakesSpec) own started (by kernel_rfl) Try.func3
      (ChangeSpec.witness6 (enc := enc) (C := Try.checked) false ⟨#[], #[.slice none 0 0], []⟩ 8 (by kernel_rfl) (by kernel_rfl) (by kernel_rfl) (by kernel_rfl))
      (fun W base args ds gs before hval hW _ _ => law_contract (n := 12) (tb := 4) laidOut rfl (by kernel_rfl) (sss := [[.sl true [.int .i64, .str, .int .i64]]]) (by kernel_rfl) (by kernel_rfl) (by kernel_rfl)
        (fun ds h => match ds, h with | [_], _ => ⟨rfl, rfl, rfl⟩) (L12_DrainMakes_key hs) hval hW))
end Go.Proofs.Ytpdbjocgoheapaa
