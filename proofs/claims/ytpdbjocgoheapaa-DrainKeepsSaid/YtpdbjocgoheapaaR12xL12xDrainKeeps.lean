/- The row of L12_DrainKeeps, from its plain law. Printed by row.py. -/
import Derived.Test.YtpdbjocgoheapaaR12
import Derived.Test.YtpdbjocgoheapaaP12xL12xDrainKeeps
import Derived.Test.YtpdbjocgoheapaaRows
namespace Go.Proofs.Ytpdbjocgoheapaa
open Go.Ab
set_option linter.unusedVariables false
theorem own : ownKnob Try.prog.godebug = none := by kernel_rfl
theorem laidOut : laidOutB Try.prog = true := by kernel_rfl

set_option maxRecDepth 100000 in
theorem L12_DrainKeeps_key (hs : ∀ (a0 : List (T_api_Thread)) (a1 : List (T_api_Packet)), (okSl ok_T_api_Thread) a0 → (okSl ok_T_api_Packet) a1 → ∃ F, L12_DrainKeeps F a0 a1 = some true) : ∀ avs, FitAll Try.prog Try.f8.params.toList [[.sl true [.int .i64, .str, .int .i64]], [.sl true [.int .i64, .int .i64, .int .i64, .sl true [.int .i64, .int .i64, .str, .int .i64, .int .i64, .sl false [.str]]]]] avs → Triple Try.prog 8 [] avs [] (.bool true) := by
  intro avs h
  obtain ⟨x, rfl, hx⟩ := (encAll_cons (enc_lA enc_T_api_Thread) (encAll_cons (enc_lA enc_T_api_Packet) encAll_nil)) avs h
  obtain ⟨F, hF⟩ := hs x.1 x.2.1 hx.1 hx.2.1
  exact L12_DrainKeeps_ok F x.1 x.2.1 true hF

set_option maxRecDepth 100000 in
theorem L12_DrainKeeps_row (hs : ∀ (a0 : List (T_api_Thread)) (a1 : List (T_api_Packet)), (okSl ok_T_api_Thread) a0 → (okSl ok_T_api_Packet) a1 → ∃ F, L12_DrainKeeps F a0 a1 = some true) : Rows.DrainKeepsSaid :=
  OpenClaim.holds_of_wide 8 Try.f8 rfl rfl rfl rfl rfl rfl rfl ⟨rfl, rfl, rfl, rfl, rfl⟩ rfl rfl rfl rfl rfl (by kernel_rfl) Try.func8 (by kernel_rfl)
    (of_decide_eq_true (by kernel_rfl)) (by unfold Func.isWrapper; rw [if_neg (by decide +kernel)]; exact ⟨rfl, rfl⟩)
    (fun os started H enc _ => returnsInHanded_of_change_sized (C := Try.checked) (s := Rows.drainKeepsSpec) own started (by kernel_rfl) Try.func8
      (ChangeSpec.witness6 (enc := enc) (C := Try.checked) false ⟨#[], #[.slice none 0 0, .slice none 0 0], []⟩ 8 (by kernel_rfl) (by kernel_rfl) (by kernel_rfl) (by kernel_rfl))
      (fun W base args ds gs before hval hW _ hz _ => law_contract (n := 12) (tb := 4) laidOut rfl (by kernel_rfl) (sss := [[.sl true [.int .i64, .str, .int .i64]], [.sl true [.int .i64, .int .i64, .int .i64, .sl true [.int .i64, .int .i64, .str, .int .i64, .int .i64, .sl false [.str]]]]]) (by kernel_rfl) (by kernel_rfl) (by kernel_rfl)
        (fun ds h => match ds, h with | [_, _], _ => ⟨rfl, rfl, rfl⟩) (L12_DrainKeeps_key hs) hval hW hz))
end Go.Proofs.Ytpdbjocgoheapaa
