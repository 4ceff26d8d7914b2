/- Loops over lists, as the printed functions have them. -/
import Derived.Test.YtldkljbmhfiboaaA31
namespace Go.Ab
open Go

/-- A loop over a list by its index: what it gives is a function of what is left. -/
theorem loopL {α σ R : Type} {l : List α} (L : Nat → Int → σ → Option R) (G : Nat → List α → σ → R) (Inv : Nat → σ → Prop)
    (he : ∀ n i s, l.length ≤ i → Inv i s → L (n + 1) (i : Nat) s = some (G i [] s))
    (hs : ∀ n i s x r, l.drop i = x :: r → i < l.length → Inv i s → (∀ s', Inv (i + 1) s' → L n ((i + 1 : Nat) : Int) s' = some (G (i + 1) r s')) → L (n + 1) (i : Nat) s = some (G i (x :: r) s)) :
    ∀ n i s, Inv i s → (l.drop i).length < n → L n (i : Nat) s = some (G i (l.drop i) s) := by
  intro n
  induction n with
  | zero => intro i s _ h; omega
  | succ n ih =>
    intro i s hI hn
    rcases hd : l.drop i with _ | ⟨x, r⟩
    · exact he n i s (drop_nil hd) hI
    · refine hs n i s x r hd (drop_lt hd) hI fun s' hI' => ?_
      have := ih (i + 1) s' hI' (by rw [drop_step hd]; rw [hd] at hn; simp only [List.length_cons] at hn; omega)
      rwa [drop_step hd] at this

/-- The same from the beginning. -/
theorem loopL0 {α σ R : Type} {l : List α} (L : Nat → Int → σ → Option R) (G : Nat → List α → σ → R) (Inv : Nat → σ → Prop)
    (he : ∀ n i s, l.length ≤ i → Inv i s → L (n + 1) (i : Nat) s = some (G i [] s))
    (hs : ∀ n i s x r, l.drop i = x :: r → i < l.length → Inv i s → (∀ s', Inv (i + 1) s' → L n ((i + 1 : Nat) : Int) s' = some (G (i + 1) r s')) → L (n + 1) (i : Nat) s = some (G i (x :: r) s))
    {n : Nat} {s : σ} (hI : Inv 0 s) (hn : l.length < n) : L n 0 s = some (G 0 l s) := by
  have := loopL L G Inv he hs n 0 s hI (by simpa using hn)
  simpa using this

theorem step64 {i : Nat} (h : i < 9223372036854775807) : w_i64 ((i : Int) + 1) = ((i + 1 : Nat) : Int) := by
  rw [w64 (by omega) (by omega)]; omega
theorem mem_drop {α : Type} {l : List α} {i : Nat} {x : α} {r : List α} (h : l.drop i = x :: r) : x ∈ l := List.mem_of_mem_drop (h ▸ List.mem_cons_self)
theorem idxL_prev {α : Type} {l : List α} {i : Nat} (h0 : 0 < i) (h : i < 9223372036854775807) : idxL l (w_i64 ((i : Int) - 1)) = l[i - 1]? := by
  rw [w64 (by omega) (by omega), show (i : Int) - 1 = ((i - 1 : Nat) : Int) by omega, idxL_nat]
theorem idxL_last {α : Type} {l : List α} (h0 : l.length < 9223372036854775807) (h : l ≠ []) : idxL l (w_i64 ((l.length : Int) - 1)) = l.getLast? := by
  have : 0 < l.length := List.length_pos_iff.2 h
  rw [idxL_prev this h0, List.getLast?_eq_getElem?]

/-- A search for the first that fails. -/
def firstBad {α : Type} {β : Type} (f : Nat → α → Option β) : Nat → List α → Unit ⊕ β
  | _, [] => .inl ()
  | i, x :: r => match f i x with
    | none => firstBad f (i + 1) r
    | some b => .inr b
theorem firstBad_congr {α β : Type} {f g : Nat → α → Option β} {i : Nat} {l : List α} (h : ∀ j x, x ∈ l → f j x = g j x) : firstBad f i l = firstBad g i l := by
  induction l generalizing i with
  | nil => rfl
  | cons x r ih =>
    simp only [firstBad]
    rw [h i x (by simp), ih (fun j y hy => h j y (by simp [hy]))]
theorem firstBad_none {α β : Type} {f : Nat → α → Option β} {i : Nat} {l : List α} (h : firstBad f i l = .inl ()) : ∀ j x, l[j]? = some x → f (i + j) x = none := by
  induction l generalizing i with
  | nil => intro j x hj; simp at hj
  | cons a r ih =>
    intro j x hj
    simp only [firstBad] at h
    split at h
    · rename_i hf
      cases j with
      | zero => simp at hj; subst hj; exact hf
      | succ j =>
        have := ih h j x (by simpa using hj)
        rwa [show i + 1 + j = i + (j + 1) by omega] at this
    · cases h
theorem firstBad_all {α β : Type} {f : Nat → α → Option β} {i : Nat} {l : List α} (h : ∀ j x, l[j]? = some x → f (i + j) x = none) : firstBad f i l = .inl () := by
  induction l generalizing i with
  | nil => rfl
  | cons a r ih =>
    simp only [firstBad]
    rw [show f i a = none from h 0 a rfl]
    exact ih fun j x hj => by
      have := h (j + 1) x (by simpa using hj)
      rwa [show i + (j + 1) = i + 1 + j by omega] at this
theorem sum_cases {β γ : Type} (o : Unit ⊕ β) (a : γ) (g : β → γ) : (match o with | .inl _ => some a | .inr q => some (g q)) = some (match o with | .inl _ => a | .inr q => g q) := by cases o <;> rfl
end Go.Ab
