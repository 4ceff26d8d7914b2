/- Plain laws of the functions below this seat's, laid anew from another seat's text. No conditions but those that the theorems name. -/
import Derived.Test.YtlnlcciflpncmaaP11xD
import Derived.Test.YtlnlcciflpncmaaB11a
import Derived.Test.YtlnlcciflpncmaaB11b
import Derived.Test.YtlnlcciflpncmaaB11c
import Derived.Test.YtlnlcciflpncmaaB11d
import Derived.Test.YtlnlcciflpncmaaB11e
import Derived.Test.YtlnlcciflpncmaaB11f
namespace Go.Ab
open Go
set_option linter.unusedVariables false
def Coded (n : List (List Int)) (s : List Arr2_Int) (e : T_api_Event) (L : List Int) : Prop :=
 evS e = 0 ∧ ∃ a st : Int, L = recInts a e st ∧ (useName e.Kind = true → ∃ j : Nat, a = (j : Int) ∧ n[j]? = some e.Name) ∧ (useStack e.Kind = true → Has n s (-1) e.Stack st ∧ e.Stack.length ≤ 32)
theorem Coded.mono {n n' : List (List Int)} {s s' : List Arr2_Int} {e : T_api_Event} {L : List Int} (h : Coded n s e L) (hn : n <+: n') (hs : s <+: s') : Coded n' s' e L := by
 obtain ⟨h0, a, st, h1, h2, h3⟩ := h
 exact ⟨h0, a, st, h1, fun u => let ⟨j, e, g⟩ := h2 u; ⟨j, e, pre_get hn g⟩, fun u => ⟨(h3 u).1.mono hn hs, (h3 u).2⟩⟩
theorem encS_coded {n : List (List Int)} {s : List Arr2_Int} {e : T_api_Event} :
  ((encS n s e).2.2.2 ≠ 0 ∧ encS n s e = ([], [], [], (encS n s e).2.2.2)) ∨
  ((encS n s e).2.2.2 = 0 ∧ Good n s ∧ Good (encS n s e).2.1 (encS n s e).2.2.1 ∧ n <+: (encS n s e).2.1 ∧ s <+: (encS n s e).2.2.1 ∧
   ∃ L, (encS n s e).1 = encI L ∧ Coded (encS n s e).2.1 (encS n s e).2.2.1 e L) := by
 unfold encS
 by_cases hc : checkS n s ≠ 0
 ·rw [if_pos hc]; exact .inl ⟨by simp, rfl⟩
 rw [if_neg hc]
 have g : Good n s := good_iff.1 (by omega)
 by_cases he : evS e ≠ 0
 ·rw [if_pos he]; exact .inl ⟨he, rfl⟩
 rw [if_neg he]
 have he0 : evS e = 0 := by omega
 obtain ⟨_, _, _, _, _, ht, _⟩ := evS_zero he0
 have hN : (putN n e).2.2 ≠ 0 ∨ (putN n e).2.2 = 0 ∧ Good (putN n e).2.1 s ∧ n <+: (putN n e).2.1 ∧ (useName e.Kind = true → ∃ j : Nat, (putN n e).1 = (j : Int) ∧ (putN n e).2.1[j]? = some e.Name) := by
  unfold putN
  cases hu : useName e.Kind
  ·exact .inr ⟨rfl, g, List.prefix_refl _, fun h => by cases h⟩
  ·unfold evText at ht
   rw [hu] at ht
   rcases putS06_good g (x := e.Name) (by simpa using ht) with h | h
   ·exact .inl (by simp [h.1])
   ·exact .inr ⟨h.1, h.2.2.1, h.2.2.2.1, fun _ => h.2.1⟩
 rcases hN with hN | ⟨h1, h2, h3, h4⟩
 ·rw [if_pos hN]; exact .inl ⟨hN, rfl⟩
 rw [if_neg (by omega)]
 have hT : (putT (putN n e).2.1 s e).2.2.2 ≠ 0 ∨ (putT (putN n e).2.1 s e).2.2.2 = 0 ∧ Good (putT (putN n e).2.1 s e).2.1 (putT (putN n e).2.1 s e).2.2.1 ∧ (putN n e).2.1 <+: (putT (putN n e).2.1 s e).2.1 ∧ s <+: (putT (putN n e).2.1 s e).2.2.1 ∧
   (useStack e.Kind = true → Has (putT (putN n e).2.1 s e).2.1 (putT (putN n e).2.1 s e).2.2.1 (-1) e.Stack (putT (putN n e).2.1 s e).1 ∧ e.Stack.length ≤ 32) := by
  unfold putT
  cases hu : useStack e.Kind
  ·exact .inr ⟨rfl, h2, List.prefix_refl _, List.prefix_refl _, fun h => by cases h⟩
  ·rcases putStackS_good (l := e.Stack) h2 with h | h
   ·exact .inl h.1
   ·exact .inr ⟨h.1, h.2.2.2.1, h.2.2.2.2.1, h.2.2.2.2.2.1, fun _ => ⟨h.2.2.2.2.2.2.1, h.2.1⟩⟩
 rcases hT with hT | ⟨k1, k2, k3, k4, k5⟩
 ·rw [if_pos hT]; exact .inl ⟨hT, rfl⟩
 rw [if_neg (by omega)]
 exact .inr ⟨rfl, g, k2, h3.trans k3, k4, _, rfl, he0, _, _, rfl, fun u => let ⟨j, e, g⟩ := h4 u; ⟨j, e, pre_get k3 g⟩, k5⟩
theorem Has.idx {n : List (List Int)} {s : List Arr2_Int} : ∀ {l : List (List Int)} {at_ i : Int}, Has n s at_ l i → -1 ≤ at_ → at_ < s.length → -1 ≤ i ∧ i < s.length := by
 intro l
 induction l with
 | nil => intro at_ i h h0 h1; simp only [Has] at h; omega
 | cons x r ih =>
  rintro at_ i ⟨a, b, h1, h2, h3⟩ _ _
  have := (List.getElem?_eq_some_iff.1 h2).1
  exact ih h3 (by omega) (by omega)
theorem Has.snoc {n : List (List Int)} {s : List Arr2_Int} {x : List Int} {a b : Nat} {c : Int} (ha : n[a]? = some x) (hb : s[b]? = some ⟨c, (a : Int)⟩) : ∀ {l : List (List Int)} {at_ : Int}, Has n s at_ l c → Has n s at_ (l ++ [x]) (b : Int) := by
 intro l
 induction l with
 | nil => intro at_ h; simp only [Has] at h; subst h; exact ⟨a, b, ha, hb, rfl⟩
 | cons y r ih =>
  rintro at_ ⟨a2, b2, h1, h2, h3⟩
  exact ⟨a2, b2, h1, h2, ih h3⟩
theorem Good.path {n : List (List Int)} {s : List Arr2_Int} (g : Good n s) : ∀ (k : Nat) (i : Int), -1 ≤ i → i < s.length → dOf (dsF s) i ≤ k → Has n s (-1) (pathN n s k i).reverse i := by
 intro k
 induction k with
 | zero =>
  intro i h0 h1 hd
  have := g.depth0 h0 h1
  have hi : i = -1 := by omega
  subst hi; rfl
 | succ k ih =>
  intro i h0 h1 hd
  by_cases hi : i < 0
  ·have hi : i = -1 := by omega
   subst hi; rfl
  obtain ⟨j, rfl⟩ := Int.eq_ofNat_of_zero_le (show 0 ≤ i by omega)
  have hj : j < s.length := by omega
  have hp := List.getElem?_eq_getElem hj
  obtain ⟨q1, q2, q3, q4, q5, q6, _⟩ := g.pair hp
  simp only [pathN]
  rw [if_neg hi, Int.toNat_natCast, hp]
  simp only [List.reverse_cons]
  have h := ih (s[j]).c0 q1 (by omega) (by omega)
  have hn : n[(s[j]).c1.toNat]? = some ((n[(s[j]).c1.toNat]?).getD []) := by rw [List.getElem?_eq_getElem (by omega)]; rfl
  refine Has.snoc hn ?_ h
  rw [hp, Int.toNat_of_nonneg q3]
theorem coded_ok {n : List (List Int)} {s : List Arr2_Int} {e : T_api_Event} {L : List Int} (g : Good n s) (h : Coded n s e L) : (∀ x ∈ encI L, okU8 x) ∧ 2 ≤ (encI L).length ∧ (encI L).length ≤ 50 := by
 obtain ⟨h0, a, st, rfl, hn, hs⟩ := h
 obtain ⟨r1, r2, r3, r4⟩ := evS_range h0
 have hg1 := g.n1
 have hg2 := g.s1
 have ea : useName e.Kind = true → okI64 a := fun u => by
  obtain ⟨j, rfl, hj⟩ := hn u
  have := (List.getElem?_eq_some_iff.1 hj).1
  unfold okI64; omega
 have es : useStack e.Kind = true → okI64 st := fun u => by
  have := (hs u).1.idx (by omega) (by omega)
  unfold okI64; omega
 refine ⟨encI_ok ?_, ?_⟩
 ·intro x hx
  unfold recInts at hx
  simp only [List.mem_append] at hx
  rcases hx with ((((hx | hx) | hx) | hx))
  ·rcases hx with hx | hx
   ·simp at hx; rcases hx with rfl | rfl <;> assumption
   ·split at hx
    ·simp at hx; subst hx; exact ea (by assumption)
    ·cases hx
  ·split at hx
   ·simp at hx; subst hx; exact r3
   ·cases hx
  ·split at hx
   ·simp at hx; subst hx; exact r4
   ·cases hx
  ·split at hx
   ·simp at hx; subst hx; exact es (by assumption)
   ·cases hx
 ·have := encI_len (recInts a e st)
  have hl : 2 ≤ (recInts a e st).length ∧ (recInts a e st).length ≤ 5 := by
   have := nameStack e.Kind
   unfold recInts
   cases h1 : useName e.Kind <;> cases h2 : useN e.Kind <;> cases h3 : useM e.Kind <;> cases h4 : useStack e.Kind <;> simp_all
  omega
end Go.Ab
