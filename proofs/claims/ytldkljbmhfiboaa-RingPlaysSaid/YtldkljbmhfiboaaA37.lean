/- Typed tables for maps: what a look-up gives behind a store; lists that are read in part. -/
import Derived.Test.YtldkljbmhfiboaaA35
namespace Go.Ab
open Go

theorem mget_mput {α β : Type} [DecidableEq α] : ∀ (l : List (α × β)) (k k' : α) (v : β), mget (mput l k v) k' = if k = k' then some v else mget l k' := by
  intro l
  induction l with
  | nil => intro k k' v; rfl
  | cons p l ih =>
    intro k k' v
    unfold mput
    by_cases hp : p.1 = k
    · rw [if_pos hp]
      simp only [mget]
      by_cases hk : k = k'
      · rw [if_pos hk, if_pos hk]
      · rw [if_neg hk, if_neg hk, if_neg (by rw [hp]; exact hk)]
    · rw [if_neg hp]
      simp only [mget]
      rw [ih]
      by_cases hk : k = k'
      · rw [if_pos hk, if_pos hk, if_neg (by rw [← hk]; exact hp)]
      · rw [if_neg hk, if_neg hk]
theorem mput_len {α β : Type} [DecidableEq α] : ∀ (l : List (α × β)) (k : α) (v : β), (mput l k v).length ≤ l.length + 1 := by
  intro l
  induction l with
  | nil => intro k v; simp [mput]
  | cons p l ih =>
    intro k v
    unfold mput
    split
    · simp
    · have := ih k v; simp only [List.length_cons]; omega
/-- A table that says of each key whether it was seen. -/
def Seen {α : Type} [DecidableEq α] (t : List (α × Bool)) (l : List α) : Prop := t.length ≤ l.length ∧ ∀ x, (mget t x).getD false = decide (x ∈ l)
theorem seen_nil {α : Type} [DecidableEq α] : Seen ([] : List (α × Bool)) [] := ⟨Nat.le_refl _, fun x => by simp [mget]⟩
theorem seen_put {α : Type} [DecidableEq α] {t : List (α × Bool)} {l : List α} (h : Seen t l) (x : α) : Seen (mput t x true) (l ++ [x]) := by
  refine ⟨by have := mput_len t x true; have := h.1; simp only [List.length_append, List.length_singleton]; omega, fun y => ?_⟩
  rw [mget_mput]
  by_cases hy : x = y
  · rw [if_pos hy]; simp [hy]
  · rw [if_neg hy, h.2]; simp [Ne.symm hy]
theorem sub_take {α : Type} (l : List α) (i : Nat) : sub l 0 (i : Int) = l.take i := by simp [sub]
theorem take_step {α : Type} {l : List α} {i : Nat} {x : α} {r : List α} (h : l.drop i = x :: r) : l.take (i + 1) = l.take i ++ [x] := by
  rw [List.take_add_one]
  have := congrArg (·[0]?) h
  simp at this
  rw [this]; rfl
theorem take_len {α : Type} {l : List α} {i : Nat} {x : α} {r : List α} (h : l.drop i = x :: r) : (l.take i).length = i := by
  have := drop_lt h
  rw [List.length_take]; omega
theorem get_drop {α : Type} {l : List α} {i : Nat} {x : α} {r : List α} (h : l.drop i = x :: r) : l[i]? = some x := by
  have := congrArg (·[0]?) h
  simpa using this
theorem cond_tt {α : Type} {c : Bool} {x y z : α} (hc : c = true) (h : x = z) : (bif c then x else y) = z := by rw [hc]; exact h
theorem cond_ff {α : Type} {c : Bool} {x y z : α} (hc : c = false) (h : y = z) : (bif c then x else y) = z := by rw [hc]; exact h
theorem or_t {p q : Prop} [Decidable p] [Decidable q] (h : p ∨ q) : (decide p || decide q) = true := by simpa using h
theorem or_f {p q : Prop} [Decidable p] [Decidable q] (h : ¬(p ∨ q)) : (decide p || decide q) = false := by simpa using h
theorem beqA_t {α : Type} [BEq α] [LawfulBEq α] {a b : α} (h : a = b) : (a == b) = true := by rw [h]; exact BEq.rfl
theorem beqA_f {α : Type} [BEq α] [LawfulBEq α] {a b : α} (h : a ≠ b) : (a == b) = false := by simpa using h
theorem sumR {β : Type} (o : Unit ⊕ β) (a : β) : (match o with | .inl _ => some a | .inr q => some q) = some (match o with | .inl _ => a | .inr q => q) := by cases o <;> rfl
/-- A comparison of two lists, one element after the other. -/
theorem same_loop {α : Type} [DecidableEq α] {a b : List α} (L : Nat → Int → Option (Unit ⊕ Bool)) (hab : a.length = b.length) (hl : a.length ≤ 100000)
    (h0 : ∀ n i, a.length ≤ i → L (n + 1) (i : Nat) = some (.inl ()))
    (h1 : ∀ n i x y r r2, a.drop i = x :: r → b.drop i = y :: r2 → i < a.length → L (n + 1) (i : Nat) = if x = y then L n ((i + 1 : Nat) : Int) else some (.inr false)) :
    L 200000 0 = some (if a = b then .inl () else .inr false) := by
  have key : ∀ (n i : Nat), (a.drop i).length < n → L n (i : Int) = some (if a.drop i = b.drop i then .inl () else .inr false) := by
    intro n
    induction n with
    | zero => intro i h; omega
    | succ n ih =>
      intro i hn
      rcases hd : a.drop i with _ | ⟨x, r⟩
      · have := drop_nil hd
        rw [h0 n i this, List.drop_eq_nil_of_le (show b.length ≤ i by omega), if_pos rfl]
      rcases hd2 : b.drop i with _ | ⟨y, r2⟩
      · have := drop_nil hd2; have := drop_lt hd; omega
      rw [hd] at hn
      simp only [List.length_cons] at hn
      rw [h1 n i x y r r2 hd hd2 (drop_lt hd)]
      have := ih (i + 1) (by rw [drop_step hd]; omega)
      rw [drop_step hd, drop_step hd2] at this
      by_cases hxy : x = y
      · rw [if_pos hxy, this]; simp [hxy]
      · rw [if_neg hxy, if_neg (by simp [hxy])]
  have := key 200000 0 (by simp; omega)
  simpa using this
end Go.Ab
