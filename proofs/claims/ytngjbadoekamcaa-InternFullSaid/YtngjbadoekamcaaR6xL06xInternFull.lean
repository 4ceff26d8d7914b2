/- The row of L06_InternFull, from its plain law. Printed by row.py. -/
import Derived.Test.YtngjbadoekamcaaR6
import Derived.Test.YtngjbadoekamcaaP06xL06xInternFull
import Derived.Test.YtngjbadoekamcaaRows
namespace Go.Proofs.Ytngjbadoekamcaa
open Go.Ab
set_option linter.unusedVariables false
theorem own : ownKnob Try.prog.godebug = none := by kernel_rfl
theorem laidOut : laidOutB Try.prog = true := by kernel_rfl

theorem L06_InternFull_key (hs : ∀ (a0 : Int), okU8 a0 → ∃ F, L06_InternFull F a0 = some true) : ∀ avs, FitAll Try.prog Try.f7.params.toList [[.int .u8]] avs → Triple Try.prog 7 [] avs [] (.bool true) := by
  intro avs h
  obtain ⟨x, rfl, hx⟩ := (encAll_cons enc_u8 encAll_nil) avs h
  obtain ⟨F, hF⟩ := hs x.1 hx.1
  exact L06_InternFull_ok F x.1 true hF

set_option maxRecDepth 100000 in
theorem L06_InternFull_row (hs : ∀ (a0 : Int), okU8 a0 → ∃ F, L06_InternFull F a0 = some true) : Rows.InternFullSaid :=
  OpenClaim.holds_of_wide 7 Try.f7 rfl rfl rfl rfl rfl rfl rfl ⟨rfl, rfl, rfl, rfl, rfl⟩ rfl rfl rfl rfl rfl (by kernel_rfl) Try.func7 (by kernel_rfl)
    (of_decide_eq_true (by kernel_rfl)) (by unfold Func.isWrapper; rw [if_neg (by decide +kernel)]; exact ⟨rfl, rfl⟩)
    (fun os started H enc _ => returnsInHanded_of_change (C := Try.checked) (s := Rows.internFullSpec) own started (by kernel_rfl) Try.func7
      (ChangeSpec.witness6 (enc := enc) (C := Try.checked) false ⟨#[], #[.int .u8 0], []⟩ 8 (by kernel_rfl) (by kernel_rfl) (by kernel_rfl) (by kernel_rfl))
      (fun W base args ds gs before hval hW _ _ => law_contract (n := 12) (tb := 4) laidOut rfl (by kernel_rfl) (sss := [[.int .u8]]) (by kernel_rfl) (by kernel_rfl) (by kernel_rfl)
        (fun ds h => match ds, h with | [_], _ => ⟨rfl, rfl, rfl⟩) (L06_InternFull_key hs) hval hW))
end Go.Proofs.Ytngjbadoekamcaa
