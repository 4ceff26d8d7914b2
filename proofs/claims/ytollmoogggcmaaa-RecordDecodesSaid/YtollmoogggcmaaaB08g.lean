/- Plain laws of the functions below this seat's, laid anew from another seat's text. No conditions but those that the theorems name. -/
import Derived.Test.YtollmoogggcmaaaP08xD
import Derived.Test.YtollmoogggcmaaaB08a
import Derived.Test.YtollmoogggcmaaaB08b
import Derived.Test.YtollmoogggcmaaaB08c
import Derived.Test.YtollmoogggcmaaaB08d
import Derived.Test.YtollmoogggcmaaaB08e
import Derived.Test.YtollmoogggcmaaaB08f
namespace Go.Ab
open Go
set_option linter.unusedVariables false
def Coded (n : List (List Int)) (s : List Arr2_Int) (e : T_api_Event) (L : List Int) : Prop :=
  evS e = 0 ∧ ∃ a st : Int, L = recInts a e st ∧ (useName e.Kind = true → ∃ j : Nat, a = (j : Int) ∧ n[j]? = some e.Name) ∧ (useStack e.Kind = true → Has n s (-1) e.Stack st ∧ e.Stack.length ≤ 32)
theorem Coded.mono {n n' : List (List Int)} {s s' : List Arr2_Int} {e : T_api_Event} {L : List Int} (h : Coded n s e L) (hn : n <+: n') (hs : s <+: s') : Coded n' s' e L := by
  obtain ⟨h0, a, st, h1, h2, h3⟩ := h
  exact ⟨h0, a, st, h1, fun u => let ⟨j, e, g⟩ := h2 u; ⟨j, e, pre_get hn g⟩, fun u => ⟨(h3 u).1.mono hn hs, (h3 u).2⟩⟩
theorem Has.snoc {n : List (List Int)} {s : List Arr2_Int} {x : List Int} {a b : Nat} {c : Int} (ha : n[a]? = some x) (hb : s[b]? = some ⟨c, (a : Int)⟩) : ∀ {l : List (List Int)} {at_ : Int}, Has n s at_ l c → Has n s at_ (l ++ [x]) (b : Int) := by
  intro l
  induction l with
  | nil => intro at_ h; simp only [Has] at h; subst h; exact ⟨a, b, ha, hb, rfl⟩
  | cons y r ih =>
    rintro at_ ⟨a2, b2, h1, h2, h3⟩
    exact ⟨a2, b2, h1, h2, ih h3⟩
theorem Good.path {n : List (List Int)} {s : List Arr2_Int} (g : Good n s) : ∀ (k : Nat) (i : Int), -1 ≤ i → i < s.length → dOf (dsF s) i ≤ k → Has n s (-1) (pathN n s k i).reverse i := by
  intro k
  induction k with
  | zero =>
    intro i h0 h1 hd
    have := g.depth0 h0 h1
    have hi : i = -1 := by omega
    subst hi; rfl
  | succ k ih =>
    intro i h0 h1 hd
    by_cases hi : i < 0
    · have hi : i = -1 := by omega
      subst hi; rfl
    obtain ⟨j, rfl⟩ := Int.eq_ofNat_of_zero_le (show 0 ≤ i by omega)
    have hj : j < s.length := by omega
    have hp := List.getElem?_eq_getElem hj
    obtain ⟨q1, q2, q3, q4, q5, q6, _⟩ := g.pair hp
    simp only [pathN]
    rw [if_neg hi, Int.toNat_natCast, hp]
    simp only [List.reverse_cons]
    have h := ih (s[j]).c0 q1 (by omega) (by omega)
    have hn : n[(s[j]).c1.toNat]? = some ((n[(s[j]).c1.toNat]?).getD []) := by rw [List.getElem?_eq_getElem (by omega)]; rfl
    refine Has.snoc hn ?_ h
    rw [hp, Int.toNat_of_nonneg q3]
end Go.Ab
