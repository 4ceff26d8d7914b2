/- Drains: the order law. -/
import Derived.Test.YtpdbjocgoheapaaC12b
namespace Go.Ab
open Go
set_option linter.unusedVariables false

def VP (q : T_api_Packet) : Prop := q.Events.length ≤ 100000 ∧ ∀ e ∈ q.Events, e.Stack.length ≤ 100000
theorem evS_stack {e : T_api_Event} (h : evS e = 0) : e.Stack.length ≤ 100000 := by
  unfold evS at h
  split at h
  · cases h
  split at h
  · cases h
  split at h
  · cases h
  rename_i hb
  split at h
  · rename_i ht; exact absurd h ht
  rename_i ht
  cases hu : useStack e.Kind
  · have : evBad e = false := by cases hx : evBad e <;> simp_all
    unfold evBad at this
    rw [hu] at this
    simp at this
    have h4 := this.2.2.2
    rw [h4]; simp
  · have hn : useName e.Kind = false := by
      cases hx : useName e.Kind
      · rfl
      · have := nameStack e.Kind hx; rw [hu] at this; cases this
    unfold evText at ht
    rw [hn, hu] at ht
    simp only [Bool.false_eq_true, if_false, if_true, ne_eq, Decidable.not_not] at ht
    unfold framesS at ht
    by_cases h32 : 32 < e.Stack.length
    · rw [if_pos h32] at ht; cases ht
    · omega
theorem VP_of {p : T_api_Packet} (h : packS p = 0) : VP p := by
  have hz := packS_zero h
  exact ⟨by omega, fun e he => evS_stack (allS_zero hz.2.2.2.2.2.2.2.2 e he)⟩
end Go.Ab
