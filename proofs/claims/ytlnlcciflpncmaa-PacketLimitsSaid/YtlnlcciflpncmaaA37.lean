/- Typed tables for maps: what a look-up gives behind a store; lists that are read in part. -/
import Derived.Test.YtlnlcciflpncmaaA35
namespace Go.Ab
open Go

theorem take_step {α : Type} {l : List α} {i : Nat} {x : α} {r : List α} (h : l.drop i = x :: r) : l.take (i + 1) = l.take i ++ [x] := by
  rw [List.take_add_one]
  have := congrArg (·[0]?) h
  simp at this
  rw [this]; rfl
theorem get_drop {α : Type} {l : List α} {i : Nat} {x : α} {r : List α} (h : l.drop i = x :: r) : l[i]? = some x := by
  have := congrArg (·[0]?) h
  simpa using this
theorem cond_tt {α : Type} {c : Bool} {x y z : α} (hc : c = true) (h : x = z) : (bif c then x else y) = z := by rw [hc]; exact h
theorem or_t {p q : Prop} [Decidable p] [Decidable q] (h : p ∨ q) : (decide p || decide q) = true := by simpa using h
theorem or_f {p q : Prop} [Decidable p] [Decidable q] (h : ¬(p ∨ q)) : (decide p || decide q) = false := by simpa using h
end Go.Ab
