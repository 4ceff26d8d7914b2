/- The row of L08_RecordUnique, from its plain law. Printed by row.py. -/
import Derived.Test.YtollmoogggcmaaaR8
import Derived.Test.YtollmoogggcmaaaP08xL08xRecordUnique
import Derived.Test.YtollmoogggcmaaaRows
namespace Go.Proofs.Ytollmoogggcmaaa
open Go.Ab
set_option linter.unusedVariables false
theorem own : ownKnob Try.prog.godebug = none := by kernel_rfl
theorem laidOut : laidOutB Try.prog = true := by kernel_rfl

theorem L08_RecordUnique_key (hs : ∀ (a0 : T_tracebooklaw08_Tables) (a1 : List (Int)), ok_T_tracebooklaw08_Tables a0 → (okSl okU8) a1 → ∃ F, L08_RecordUnique F a0 a1 = some true) : ∀ avs, FitAll Try.prog Try.f6.params.toList [[.sl false [.str], .sl true [.int .i64, .int .i64]], [.sl false [.int .u8]]] avs → Triple Try.prog 6 [] avs [] (.bool true) := by
  intro avs h
  obtain ⟨x, rfl, hx⟩ := (encAll_cons enc_T_tracebooklaw08_Tables (encAll_cons (enc_lC enc_u8) encAll_nil)) avs h
  obtain ⟨F, hF⟩ := hs x.1 x.2.1 hx.1 hx.2.1
  exact L08_RecordUnique_ok F x.1 x.2.1 true hF

set_option maxRecDepth 100000 in
theorem L08_RecordUnique_row (hs : ∀ (a0 : T_tracebooklaw08_Tables) (a1 : List (Int)), ok_T_tracebooklaw08_Tables a0 → (okSl okU8) a1 → ∃ F, L08_RecordUnique F a0 a1 = some true) : Rows.RecordUniqueSaid :=
  OpenClaim.holds_of_wide 6 Try.f6 rfl rfl rfl rfl rfl rfl rfl ⟨rfl, rfl, rfl, rfl, rfl⟩ rfl rfl rfl rfl rfl (by kernel_rfl) Try.func6 (by kernel_rfl)
    (of_decide_eq_true (by kernel_rfl)) (by unfold Func.isWrapper; rw [if_neg (by decide +kernel)]; exact ⟨rfl, rfl⟩)
    (fun os started H enc _ => returnsInHanded_of_change (C := Try.checked) (s := Rows.recordUniqueSpec) own started (by kernel_rfl) Try.func6
      (ChangeSpec.witness6 (enc := enc) (C := Try.checked) false ⟨#[], #[.agg #[.slice none 0 0, .slice none 0 0], .slice none 0 0], []⟩ 8 (by kernel_rfl) (by kernel_rfl) (by kernel_rfl) (by kernel_rfl))
      (fun W base args ds gs before hval hW _ _ => law_contract (n := 12) (tb := 4) laidOut rfl (by kernel_rfl) (sss := [[.sl false [.str], .sl true [.int .i64, .int .i64]], [.sl false [.int .u8]]]) (by kernel_rfl) (by kernel_rfl) (by kernel_rfl)
        (fun ds h => match ds, h with | [_, _], _ => ⟨rfl, rfl, rfl⟩) (L08_RecordUnique_key hs) hval hW))
end Go.Proofs.Ytollmoogggcmaaa
