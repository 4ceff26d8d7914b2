/- The row of L09_RingKeeps, from its plain law. Printed by row.py. -/
import Derived.Test.YtldkljbmhfiboaaR9
import Derived.Test.YtldkljbmhfiboaaP09xL09xRingKeeps
import Derived.Test.YtldkljbmhfiboaaRows
namespace Go.Proofs.Ytldkljbmhfiboaa
open Go.Ab
set_option linter.unusedVariables false
theorem own : ownKnob Try.prog.godebug = none := by kernel_rfl
theorem laidOut : laidOutB Try.prog = true := by kernel_rfl

theorem L09_RingKeeps_key (hs : ∀ (a0 : T_api_Ring) (a1 : List (Int)), ok_T_api_Ring a0 → (okSl okU8) a1 → ∃ F, L09_RingKeeps F a0 a1 = some true) : ∀ avs, FitAll Try.prog Try.f6.params.toList [[.int .i64, .sl false [.int .u8], .int .i64, .int .i64, .int .i64, .int .i64], [.sl false [.int .u8]]] avs → Triple Try.prog 6 [] avs [] (.bool true) := by
  intro avs h
  obtain ⟨x, rfl, hx⟩ := (encAll_cons enc_T_api_Ring (encAll_cons (enc_lC enc_u8) encAll_nil)) avs h
  obtain ⟨F, hF⟩ := hs x.1 x.2.1 hx.1 hx.2.1
  exact L09_RingKeeps_ok F x.1 x.2.1 true hF

set_option maxRecDepth 100000 in
theorem L09_RingKeeps_row (hs : ∀ (a0 : T_api_Ring) (a1 : List (Int)), ok_T_api_Ring a0 → (okSl okU8) a1 → ∃ F, L09_RingKeeps F a0 a1 = some true) : Rows.RingKeepsSaid :=
  OpenClaim.holds_of_wide 6 Try.f6 rfl rfl rfl rfl rfl rfl rfl ⟨rfl, rfl, rfl, rfl, rfl⟩ rfl rfl rfl rfl rfl (by kernel_rfl) Try.func6 (by kernel_rfl)
    (of_decide_eq_true (by kernel_rfl)) (by unfold Func.isWrapper; rw [if_neg (by decide +kernel)]; exact ⟨rfl, rfl⟩)
    (fun os started H enc _ => returnsInHanded_of_change (C := Try.checked) (s := Rows.ringKeepsSpec) own started (by kernel_rfl) Try.func6
      (ChangeSpec.witness6 (enc := enc) (C := Try.checked) false ⟨#[], #[.agg #[.int .i64 0, .slice none 0 0, .int .i64 0, .int .i64 0, .int .i64 0, .int .i64 0], .slice none 0 0], []⟩ 8 (by kernel_rfl) (by kernel_rfl) (by kernel_rfl) (by kernel_rfl))
      (fun W base args ds gs before hval hW _ _ => law_contract (n := 12) (tb := 4) laidOut rfl (by kernel_rfl) (sss := [[.int .i64, .sl false [.int .u8], .int .i64, .int .i64, .int .i64, .int .i64], [.sl false [.int .u8]]]) (by kernel_rfl) (by kernel_rfl) (by kernel_rfl)
        (fun ds h => match ds, h with | [_, _], _ => ⟨rfl, rfl, rfl⟩) (L09_RingKeeps_key hs) hval hW))
end Go.Proofs.Ytldkljbmhfiboaa
