/- Typed tables for maps: what a look-up gives behind a store; lists that are read in part. -/
import Derived.Test.YtpdbjocgoheapaaA35
namespace Go.Ab
open Go

theorem mget_mput {α β : Type} [DecidableEq α] : ∀ (l : List (α × β)) (k k' : α) (v : β), mget (mput l k v) k' = if k = k' then some v else mget l k' := by
  intro l
  induction l with
  | nil => intro k k' v; rfl
  | cons p l ih =>
    intro k k' v
    unfold mput
    by_cases hp : p.1 = k
    · rw [if_pos hp]
      simp only [mget]
      by_cases hk : k = k'
      · rw [if_pos hk, if_pos hk]
      · rw [if_neg hk, if_neg hk, if_neg (by rw [hp]; exact hk)]
    · rw [if_neg hp]
      simp only [mget]
      rw [ih]
      by_cases hk : k = k'
      · rw [if_pos hk, if_pos hk, if_neg (by rw [← hk]; exact hp)]
      · rw [if_neg hk, if_neg hk]
theorem mput_len {α β : Type} [DecidableEq α] : ∀ (l : List (α × β)) (k : α) (v : β), (mput l k v).length ≤ l.length + 1 := by
  intro l
  induction l with
  | nil => intro k v; simp [mput]
  | cons p l ih =>
    intro k v
    unfold mput
    split
    · simp
    · have := ih k v; simp only [List.length_cons]; omega
/-- A table that says of each key whether it was seen. -/
def Seen {α : Type} [DecidableEq α] (t : List (α × Bool)) (l : List α) : Prop := t.length ≤ l.length ∧ ∀ x, (mget t x).getD false = decide (x ∈ l)
theorem seen_nil {α : Type} [DecidableEq α] : Seen ([] : List (α × Bool)) [] := ⟨Nat.le_refl _, fun x => by simp [mget]⟩
theorem seen_put {α : Type} [DecidableEq α] {t : List (α × Bool)} {l : List α} (h : Seen t l) (x : α) : Seen (mput t x true) (l ++ [x]) := by
  refine ⟨by have := mput_len t x true; have := h.1; simp only [List.length_append, List.length_singleton]; omega, fun y => ?_⟩
  rw [mget_mput]
  by_cases hy : x = y
  · rw [if_pos hy]; simp [hy]
  · rw [if_neg hy, h.2]; simp [Ne.symm hy]
theorem sub_take {α : Type} (l : List α) (i : Nat) : sub l 0 (i : Int) = l.take i := by simp [sub]
theorem take_step {α : Type} {l : List α} {i : Nat} {x : α} {r : List α} (h : l.drop i = x :: r) : l.take (i + 1) = l.take i ++ [x] := by
  rw [List.take_add_one]
  have := congrArg (·[0]?) h
  simp at this
  rw [this]; rfl
theorem get_drop {α : Type} {l : List α} {i : Nat} {x : α} {r : List α} (h : l.drop i = x :: r) : l[i]? = some x := by
  have := congrArg (·[0]?) h
  simpa using this
theorem cond_tt {α : Type} {c : Bool} {x y z : α} (hc : c = true) (h : x = z) : (bif c then x else y) = z := by rw [hc]; exact h
theorem or_t {p q : Prop} [Decidable p] [Decidable q] (h : p ∨ q) : (decide p || decide q) = true := by simpa using h
theorem or_f {p q : Prop} [Decidable p] [Decidable q] (h : ¬(p ∨ q)) : (decide p || decide q) = false := by simpa using h
end Go.Ab
