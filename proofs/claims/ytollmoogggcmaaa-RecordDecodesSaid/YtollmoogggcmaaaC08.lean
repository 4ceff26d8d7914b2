/- Records: the five laws. -/
import Derived.Test.YtollmoogggcmaaaB08g
import Derived.Test.YtollmoogggcmaaaR8
namespace Go.Ab
open Go
set_option linter.unusedVariables false

theorem lives08 : L08_lives 200000 = some true := by kernel_rfl
theorem stack_dec {n : List (List Int)} {s : List Arr2_Int} {b : List Int} : (decS n s b).1.Stack.length ≤ 32 := by
  unfold decS
  split
  · simp [ev0]
  split
  · simp [ev0]
  split
  · simp [ev0]
  split
  · simp [ev0]
  split
  · simp [ev0]
  · exact stackV_len
theorem L08_RecordDecodes_plain : ∀ (a0 : T_tracebooklaw08_Tables) (a1 : List Int), ok_T_tracebooklaw08_Tables a0 → okSl okU8 a1 → ∃ F, L08_RecordDecodes F a0 a1 = some true := by
  intro t b ht hb
  refine ⟨200000, ?_⟩
  unfold L08_RecordDecodes
  by_cases hs : (t.Names.length : Int) > 40 ∨ (t.Stacks.length : Int) > 40 ∨ (b.length : Int) > 300
  · rw [show (decide ((t.Names.length : Int) > 40) || (decide ((t.Stacks.length : Int) > 40) || decide ((b.length : Int) > 300))) = true by simpa using hs]
    simp only [cond_true, Option.bind_some, lives08]
  rw [show (decide ((t.Names.length : Int) > 40) || (decide ((t.Stacks.length : Int) > 40) || decide ((b.length : Int) > 300))) = false by simp; omega]
  have h1 := stack_dec (n := t.Names) (s := t.Stacks) (b := b)
  rw [cond_false, record_Decode_eq hb.1 (by omega), Option.bind_some, R08_Decode_eq hb.1 (by omega), Option.bind_some, event_Same_eq (by omega)]
  simp only [Option.bind_some, decide_true, cond_true, BEq.rfl, lives08]
end Go.Ab
