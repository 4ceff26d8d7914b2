/- The row of lShort, from its plain law. Printed by row.py. -/
import Derived.Test.YtbmhiadpagpjmaaR5
import Derived.Test.YtbmhiadpagpjmaaRows
namespace Go.Proofs.Ytbmhiadpagpjmaa
open Go.Ab
set_option linter.unusedVariables false
theorem own : ownKnob Try.prog.godebug = none := by kernel_rfl
theorem laidOut : laidOutB Try.prog = true := by kernel_rfl

theorem lShort_key (hs : ∀ (a0 : Int) (a1 : List Int) (a2 : Int), okI64 a0 → okStr a1 → okI64 a2 → ∃ F, lShort F a0 a1 a2 = some true) : ∀ avs, FitAll Try.prog Try.f10.params.toList [[.int .i64], [.str], [.int .i64]] avs → Triple Try.prog 10 [] avs [] (.bool true) := by
  intro avs h
  obtain ⟨x, rfl, hx⟩ := (encAll_cons enc_i64 (encAll_cons enc_st (encAll_cons enc_i64 encAll_nil))) avs h
  obtain ⟨F, hF⟩ := hs x.1 x.2.1 x.2.2.1 hx.1 hx.2.1 hx.2.2.1
  exact lShort_ok F x.1 x.2.1 x.2.2.1 true hF

set_option maxRecDepth 100000 in
theorem lShort_row (hs : ∀ (a0 : Int) (a1 : List Int) (a2 : Int), okI64 a0 → okStr a1 → okI64 a2 → ∃ F, lShort F a0 a1 a2 = some true) : Rows.CodecShortSaid :=
  OpenClaim.holds_of_wide 10 Try.f10 rfl rfl rfl rfl rfl rfl rfl ⟨rfl, rfl, rfl, rfl, rfl⟩ rfl rfl rfl rfl rfl (by kernel_rfl) Try.func10 (by kernel_rfl)
    (of_decide_eq_true (by kernel_rfl)) (by unfold Func.isWrapper; rw [if_neg (by decide +kernel)]; exact ⟨rfl, rfl⟩)
    (fun os started H enc _ => returnsInHanded_of_change (C := Try.checked) (s := Rows.codecShortSpec) own started (by kernel_rfl) Try.func10
      (ChangeSpec.witness6 (enc := enc) (C := Try.checked) false ⟨#[], #[.int .i64 0, .string ⟨#[]⟩, .int .i64 0], []⟩ 8 (by kernel_rfl) (by kernel_rfl) (by kernel_rfl) (by kernel_rfl))
      (fun W base args ds gs before hval hW _ _ => law_contract (n := 12) (tb := 4) laidOut rfl (by kernel_rfl) (sss := [[.int .i64], [.str], [.int .i64]]) (by kernel_rfl) (by kernel_rfl) (by kernel_rfl)
        (fun ds h => match ds, h with | [_, _, _], _ => ⟨rfl, rfl, rfl⟩) (lShort_key hs) hval hW))
end Go.Proofs.Ytbmhiadpagpjmaa
