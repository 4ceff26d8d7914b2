/- The row of L09_RingMakes, from its plain law. Printed by row.py. -/
import Derived.Test.YtldkljbmhfiboaaR9
import Derived.Test.YtldkljbmhfiboaaP09xL09xRingMakes
import Derived.Test.YtldkljbmhfiboaaRows
namespace Go.Proofs.Ytldkljbmhfiboaa
open Go.Ab
set_option linter.unusedVariables false
theorem own : ownKnob Try.prog.godebug = none := by kernel_rfl
theorem laidOut : laidOutB Try.prog = true := by kernel_rfl

theorem L09_RingMakes_key (hs : ∀ (a0 : Int) (a1 : Int), okI64 a0 → okI64 a1 → ∃ F, L09_RingMakes F a0 a1 = some true) : ∀ avs, FitAll Try.prog Try.f3.params.toList [[.int .i64], [.int .i64]] avs → Triple Try.prog 3 [] avs [] (.bool true) := by
  intro avs h
  obtain ⟨x, rfl, hx⟩ := (encAll_cons enc_i64 (encAll_cons enc_i64 encAll_nil)) avs h
  obtain ⟨F, hF⟩ := hs x.1 x.2.1 hx.1 hx.2.1
  exact L09_RingMakes_ok F x.1 x.2.1 true hF

set_option maxRecDepth 100000 in
theorem L09_RingMakes_row (hs : ∀ (a0 : Int) (a1 : Int), okI64 a0 → okI64 a1 → ∃ F, L09_RingMakes F a0 a1 = some true) : Rows.RingMakesSaid :=
  OpenClaim.holds_of_wide 3 Try.f3 rfl rfl rfl rfl rfl rfl rfl ⟨rfl, rfl, rfl, rfl, rfl⟩ rfl rfl rfl rfl rfl (by kernel_rfl) Try.func3 (by kernel_rfl)
    (of_decide_eq_true (by kernel_rfl)) (by unfold Func.isWrapper; rw [if_neg (by decide +kernel)]; exact ⟨rfl, rfl⟩)
    (fun os started H enc _ => returnsInHanded_of_change (C := Try.checked) (s := Rows.ringMakesSpec) own started (by kernel_rfl) Try.func3
      (ChangeSpec.witness6 (enc := enc) (C := Try.checked) false ⟨#[], #[.int .i64 0, .int .i64 0], []⟩ 8 (by kernel_rfl) (by kernel_rfl) (by kernel_rfl) (by kernel_rfl))
      (fun W base args ds gs before hval hW _ _ => law_contract (n := 12) (tb := 4) laidOut rfl (by kernel_rfl) (sss := [[.int .i64], [.int .i64]]) (by kernel_rfl) (by kernel_rfl) (by kernel_rfl)
        (fun ds h => match ds, h with | [_, _], _ => ⟨rfl, rfl, rfl⟩) (L09_RingMakes_key hs) hval hW))
end Go.Proofs.Ytldkljbmhfiboaa
