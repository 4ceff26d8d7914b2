/- The row of L09_RingPlays, from its plain law. Printed by row.py. -/
import Derived.Test.YtldkljbmhfiboaaR9
import Derived.Test.YtldkljbmhfiboaaP09xL09xRingPlays
import Derived.Test.YtldkljbmhfiboaaRows
namespace Go.Proofs.Ytldkljbmhfiboaa
open Go.Ab
set_option linter.unusedVariables false
theorem own : ownKnob Try.prog.godebug = none := by kernel_rfl
theorem laidOut : laidOutB Try.prog = true := by kernel_rfl

set_option maxRecDepth 100000 in
theorem L09_RingPlays_key (hs : ∀ (a0 : Int) (a1 : Bool) (a2 : List (List (Int))), okU8 a0 → okBool a1 → (okSl (okSl okU8)) a2 → ∃ F, L09_RingPlays F a0 a1 a2 = some true) : ∀ avs, FitAll Try.prog Try.f7.params.toList [[.int .u8], [.bool], [.sl false [.sl false [.int .u8]]]] avs → Triple Try.prog 7 [] avs [] (.bool true) := by
  intro avs h
  obtain ⟨x, rfl, hx⟩ := (encAll_cons enc_u8 (encAll_cons enc_bl (encAll_cons (enc_lC (enc_lC enc_u8)) encAll_nil))) avs h
  obtain ⟨F, hF⟩ := hs x.1 x.2.1 x.2.2.1 hx.1 hx.2.1 hx.2.2.1
  exact L09_RingPlays_ok F x.1 x.2.1 x.2.2.1 true hF

set_option maxRecDepth 100000 in
theorem L09_RingPlays_row (hs : ∀ (a0 : Int) (a1 : Bool) (a2 : List (List (Int))), okU8 a0 → okBool a1 → (okSl (okSl okU8)) a2 → ∃ F, L09_RingPlays F a0 a1 a2 = some true) : Rows.RingPlaysSaid :=
  OpenClaim.holds_of_wide 7 Try.f7 rfl rfl rfl rfl rfl rfl rfl ⟨rfl, rfl, rfl, rfl, rfl⟩ rfl rfl rfl rfl rfl (by kernel_rfl) Try.func7 (by kernel_rfl)
    (of_decide_eq_true (by kernel_rfl)) (by unfold Func.isWrapper; rw [if_neg (by decide +kernel)]; exact ⟨rfl, rfl⟩)
    (fun os started H enc _ => returnsInHanded_of_change_sized (C := Try.checked) (s := Rows.ringPlaysSpec) own started (by kernel_rfl) Try.func7
      (ChangeSpec.witness6 (enc := enc) (C := Try.checked) false ⟨#[], #[.int .u8 0, .bool false, .slice none 0 0], []⟩ 8 (by kernel_rfl) (by kernel_rfl) (by kernel_rfl) (by kernel_rfl))
      (fun W base args ds gs before hval hW _ hz _ => law_contract (n := 12) (tb := 4) laidOut rfl (by kernel_rfl) (sss := [[.int .u8], [.bool], [.sl false [.sl false [.int .u8]]]]) (by kernel_rfl) (by kernel_rfl) (by kernel_rfl)
        (fun ds h => match ds, h with | [_, _, _], _ => ⟨rfl, rfl, rfl⟩) (L09_RingPlays_key hs) hval hW hz))
end Go.Proofs.Ytldkljbmhfiboaa
