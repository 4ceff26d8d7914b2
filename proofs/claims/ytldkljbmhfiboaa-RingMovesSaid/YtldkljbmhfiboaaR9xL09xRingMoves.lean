/- The row of L09_RingMoves, from its plain law. Printed by row.py. -/
import Derived.Test.YtldkljbmhfiboaaR9
import Derived.Test.YtldkljbmhfiboaaP09xL09xRingMoves
import Derived.Test.YtldkljbmhfiboaaRows
namespace Go.Proofs.Ytldkljbmhfiboaa
open Go.Ab
set_option linter.unusedVariables false
theorem own : ownKnob Try.prog.godebug = none := by kernel_rfl
theorem laidOut : laidOutB Try.prog = true := by kernel_rfl

theorem L09_RingMoves_key (hs : ∀ (a0 : T_api_Ring) (a1 : List (Int)) (a2 : Int), ok_T_api_Ring a0 → (okSl okU8) a1 → okU16 a2 → ∃ F, L09_RingMoves F a0 a1 a2 = some true) : ∀ avs, FitAll Try.prog Try.f8.params.toList [[.int .i64, .sl false [.int .u8], .int .i64, .int .i64, .int .i64, .int .i64], [.sl false [.int .u8]], [.int .u16]] avs → Triple Try.prog 8 [] avs [] (.bool true) := by
  intro avs h
  obtain ⟨x, rfl, hx⟩ := (encAll_cons enc_T_api_Ring (encAll_cons (enc_lC enc_u8) (encAll_cons enc_u16 encAll_nil))) avs h
  obtain ⟨F, hF⟩ := hs x.1 x.2.1 x.2.2.1 hx.1 hx.2.1 hx.2.2.1
  exact L09_RingMoves_ok F x.1 x.2.1 x.2.2.1 true hF

set_option maxRecDepth 100000 in
theorem L09_RingMoves_row (hs : ∀ (a0 : T_api_Ring) (a1 : List (Int)) (a2 : Int), ok_T_api_Ring a0 → (okSl okU8) a1 → okU16 a2 → ∃ F, L09_RingMoves F a0 a1 a2 = some true) : Rows.RingMovesSaid :=
  OpenClaim.holds_of_wide 8 Try.f8 rfl rfl rfl rfl rfl rfl rfl ⟨rfl, rfl, rfl, rfl, rfl⟩ rfl rfl rfl rfl rfl (by kernel_rfl) Try.func8 (by kernel_rfl)
    (of_decide_eq_true (by kernel_rfl)) (by unfold Func.isWrapper; rw [if_neg (by decide +kernel)]; exact ⟨rfl, rfl⟩)
    (fun os started H enc _ => returnsInHanded_of_change (C := Try.checked) (s := Rows.ringMovesSpec) own started (by kernel_rfl) Try.func8
      (ChangeSpec.witness6 (enc := enc) (C := Try.checked) false ⟨#[], #[.agg #[.int .i64 0, .slice none 0 0, .int .i64 0, .int .i64 0, .int .i64 0, .int .i64 0], .slice none 0 0, .int .u16 0], []⟩ 8 (by kernel_rfl) (by kernel_rfl) (by kernel_rfl) (by kernel_rfl))
      (fun W base args ds gs before hval hW _ _ => law_contract (n := 12) (tb := 4) laidOut rfl (by kernel_rfl) (sss := [[.int .i64, .sl false [.int .u8], .int .i64, .int .i64, .int .i64, .int .i64], [.sl false [.int .u8]], [.int .u16]]) (by kernel_rfl) (by kernel_rfl) (by kernel_rfl)
        (fun ds h => match ds, h with | [_, _, _], _ => ⟨rfl, rfl, rfl⟩) (L09_RingMoves_key hs) hval hW))
end Go.Proofs.Ytldkljbmhfiboaa
