/- The row of lSums, from its plain law. Printed by row.py. -/
import Derived.Test.YtbmhiadpagpjmaaR5
import Derived.Test.YtbmhiadpagpjmaaRows
namespace Go.Proofs.Ytbmhiadpagpjmaa
open Go.Ab
set_option linter.unusedVariables false
theorem own : ownKnob Try.prog.godebug = none := by kernel_rfl
theorem laidOut : laidOutB Try.prog = true := by kernel_rfl

theorem lSums_key (hs : ∀ (a0 : List (Int)), (okSl okU8) a0 → ∃ F, lSums F a0 = some true) : ∀ avs, FitAll Try.prog Try.f4.params.toList [[.sl false [.int .u8]]] avs → Triple Try.prog 4 [] avs [] (.bool true) := by
  intro avs h
  obtain ⟨x, rfl, hx⟩ := (encAll_cons (enc_lC enc_u8) encAll_nil) avs h
  obtain ⟨F, hF⟩ := hs x.1 hx.1
  exact lSums_ok F x.1 true hF

set_option maxRecDepth 100000 in
theorem lSums_row (hs : ∀ (a0 : List (Int)), (okSl okU8) a0 → ∃ F, lSums F a0 = some true) : Rows.CodecSumsSaid :=
  OpenClaim.holds_of_wide 4 Try.f4 rfl rfl rfl rfl rfl rfl rfl ⟨rfl, rfl, rfl, rfl, rfl⟩ rfl rfl rfl rfl rfl (by kernel_rfl) Try.func4 (by kernel_rfl)
    (of_decide_eq_true (by kernel_rfl)) (by unfold Func.isWrapper; rw [if_neg (by decide +kernel)]; exact ⟨rfl, rfl⟩)
    (fun os started H enc _ => returnsInHanded_of_change (C := Try.checked) (s := Rows.codecSumsSpec) own started (by kernel_rfl) Try.func4
      (ChangeSpec.witness6 (enc := enc) (C := Try.checked) false ⟨#[], #[.slice none 0 0], []⟩ 8 (by kernel_rfl) (by kernel_rfl) (by kernel_rfl) (by kernel_rfl))
      (fun W base args ds gs before hval hW _ _ => law_contract (n := 12) (tb := 4) laidOut rfl (by kernel_rfl) (sss := [[.sl false [.int .u8]]]) (by kernel_rfl) (by kernel_rfl) (by kernel_rfl)
        (fun ds h => match ds, h with | [_], _ => ⟨rfl, rfl, rfl⟩) (lSums_key hs) hval hW))
end Go.Proofs.Ytbmhiadpagpjmaa
