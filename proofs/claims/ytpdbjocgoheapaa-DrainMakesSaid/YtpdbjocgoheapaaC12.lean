/- Drains: made. -/
import Derived.Test.YtpdbjocgoheapaaB12h
import Derived.Test.YtpdbjocgoheapaaR12
namespace Go.Ab
open Go
set_option linter.unusedVariables false

theorem awake12 : L12_awake 200000 = some true := by kernel_rfl
theorem L12_DrainMakes_plain : ∀ (a0 : List T_api_Thread), okSl ok_T_api_Thread a0 → ∃ F, L12_DrainMakes F a0 = some true := by
  intro l _
  refine ⟨200000, ?_⟩
  unfold L12_DrainMakes
  by_cases h : (l.length : Int) > 70
  · rw [dec_t h]; simp only [cond_true, Option.bind_some, awake12]
  rw [dec_f h, cond_false, drain_New_eq, Option.bind_some, R12_New_eq, Option.bind_some]
  unfold newS
  by_cases ht : threadsS l ≠ 0
  · rw [if_pos ht]
    simp only
    rw [R12_Same_self (s := ⟨[], [], []⟩) (by simp) (by simp) (by simp) (by simp), BEq.rfl, bne_t ht]
    simp only [cond_true, Option.bind_some, awake12]
  · have hl := threadsS_len (show threadsS l = 0 by omega)
    rw [if_neg ht]
    simp only
    rw [R12_Same_self (s := ⟨l, List.replicate l.length 0, []⟩) (by simp only; omega) (by simp; omega) (by simp) (by simp), BEq.rfl, bne_f rfl, drain_Check_eq (s := ⟨l, List.replicate l.length 0, []⟩) (by simp) (by simp) (by simp; omega), chk_new (by omega)]
    simp only [cond_true, cond_false, Option.bind_some, BEq.rfl, awake12]
end Go.Ab
