/- The row of L12_DrainOrder, from its plain law. Printed by row.py. -/
import Derived.Test.YtpdbjocgoheapaaR12
import Derived.Test.YtpdbjocgoheapaaP12xL12xDrainOrder
import Derived.Test.YtpdbjocgoheapaaRows
namespace Go.Proofs.Ytpdbjocgoheapaa
open Go.Ab
set_option linter.unusedVariables false
theorem own : ownKnob Try.prog.godebug = none := by kernel_rfl
theorem laidOut : laidOutB Try.prog = true := by kernel_rfl

set_option maxRecDepth 100000 in
theorem L12_DrainOrder_key (hs : ∀ (a0 : List (T_api_Packet)) (a1 : List (T_api_Packet)), (okSl ok_T_api_Packet) a0 → (okSl ok_T_api_Packet) a1 → ∃ F, L12_DrainOrder F a0 a1 = some true) : ∀ avs, FitAll Try.prog Try.f7.params.toList [[.sl true [.int .i64, .int .i64, .int .i64, .sl true [.int .i64, .int .i64, .str, .int .i64, .int .i64, .sl false [.str]]]], [.sl true [.int .i64, .int .i64, .int .i64, .sl true [.int .i64, .int .i64, .str, .int .i64, .int .i64, .sl false [.str]]]]] avs → Triple Try.prog 7 [] avs [] (.bool true) := by
  intro avs h
  obtain ⟨x, rfl, hx⟩ := (encAll_cons (enc_lA enc_T_api_Packet) (encAll_cons (enc_lA enc_T_api_Packet) encAll_nil)) avs h
  obtain ⟨F, hF⟩ := hs x.1 x.2.1 hx.1 hx.2.1
  exact L12_DrainOrder_ok F x.1 x.2.1 true hF

set_option maxRecDepth 100000 in
theorem L12_DrainOrder_row (hs : ∀ (a0 : List (T_api_Packet)) (a1 : List (T_api_Packet)), (okSl ok_T_api_Packet) a0 → (okSl ok_T_api_Packet) a1 → ∃ F, L12_DrainOrder F a0 a1 = some true) : Rows.DrainOrderSaid :=
  OpenClaim.holds_of_wide 7 Try.f7 rfl rfl rfl rfl rfl rfl rfl ⟨rfl, rfl, rfl, rfl, rfl⟩ rfl rfl rfl rfl rfl (by kernel_rfl) Try.func7 (by kernel_rfl)
    (of_decide_eq_true (by kernel_rfl)) (by unfold Func.isWrapper; rw [if_neg (by decide +kernel)]; exact ⟨rfl, rfl⟩)
    (fun os started H enc _ => returnsInHanded_of_change_sized (C := Try.checked) (s := Rows.drainOrderSpec) own started (by kernel_rfl) Try.func7
      (ChangeSpec.witness6 (enc := enc) (C := Try.checked) false ⟨#[], #[.slice none 0 0, .slice none 0 0], []⟩ 8 (by kernel_rfl) (by kernel_rfl) (by kernel_rfl) (by kernel_rfl))
      (fun W base args ds gs before hval hW _ hz _ => law_contract (n := 12) (tb := 4) laidOut rfl (by kernel_rfl) (sss := [[.sl true [.int .i64, .int .i64, .int .i64, .sl true [.int .i64, .int .i64, .str, .int .i64, .int .i64, .sl false [.str]]]], [.sl true [.int .i64, .int .i64, .int .i64, .sl true [.int .i64, .int .i64, .str, .int .i64, .int .i64, .sl false [.str]]]]]) (by kernel_rfl) (by kernel_rfl) (by kernel_rfl)
        (fun ds h => match ds, h with | [_, _], _ => ⟨rfl, rfl, rfl⟩) (L12_DrainOrder_key hs) hval hW hz))
end Go.Proofs.Ytpdbjocgoheapaa
