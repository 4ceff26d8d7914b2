/- The row of L09_RingChecks, from its plain law. Printed by row.py. -/
import Derived.Test.YtldkljbmhfiboaaR9
import Derived.Test.YtldkljbmhfiboaaP09xL09xRingChecks
import Derived.Test.YtldkljbmhfiboaaRows
namespace Go.Proofs.Ytldkljbmhfiboaa
open Go.Ab
set_option linter.unusedVariables false
theorem own : ownKnob Try.prog.godebug = none := by kernel_rfl
theorem laidOut : laidOutB Try.prog = true := by kernel_rfl

theorem L09_RingChecks_key (hs : ∀ (a0 : T_api_Ring), ok_T_api_Ring a0 → ∃ F, L09_RingChecks F a0 = some true) : ∀ avs, FitAll Try.prog Try.f4.params.toList [[.int .i64, .sl false [.int .u8], .int .i64, .int .i64, .int .i64, .int .i64]] avs → Triple Try.prog 4 [] avs [] (.bool true) := by
  intro avs h
  obtain ⟨x, rfl, hx⟩ := (encAll_cons enc_T_api_Ring encAll_nil) avs h
  obtain ⟨F, hF⟩ := hs x.1 hx.1
  exact L09_RingChecks_ok F x.1 true hF

set_option maxRecDepth 100000 in
theorem L09_RingChecks_row (hs : ∀ (a0 : T_api_Ring), ok_T_api_Ring a0 → ∃ F, L09_RingChecks F a0 = some true) : Rows.RingChecksSaid :=
  OpenClaim.holds_of_wide 4 Try.f4 rfl rfl rfl rfl rfl rfl rfl ⟨rfl, rfl, rfl, rfl, rfl⟩ rfl rfl rfl rfl rfl (by kernel_rfl) Try.func4 (by kernel_rfl)
    (of_decide_eq_true (by kernel_rfl)) (by unfold Func.isWrapper; rw [if_neg (by decide +kernel)]; exact ⟨rfl, rfl⟩)
    (fun os started H enc _ => returnsInHanded_of_change (C := Try.checked) (s := Rows.ringChecksSpec) own started (by kernel_rfl) Try.func4
      (ChangeSpec.witness6 (enc := enc) (C := Try.checked) false ⟨#[], #[.agg #[.int .i64 0, .slice none 0 0, .int .i64 0, .int .i64 0, .int .i64 0, .int .i64 0]], []⟩ 8 (by kernel_rfl) (by kernel_rfl) (by kernel_rfl) (by kernel_rfl))
      (fun W base args ds gs before hval hW _ _ => law_contract (n := 12) (tb := 4) laidOut rfl (by kernel_rfl) (sss := [[.int .i64, .sl false [.int .u8], .int .i64, .int .i64, .int .i64, .int .i64]]) (by kernel_rfl) (by kernel_rfl) (by kernel_rfl)
        (fun ds h => match ds, h with | [_], _ => ⟨rfl, rfl, rfl⟩) (L09_RingChecks_key hs) hval hW))
end Go.Proofs.Ytldkljbmhfiboaa
