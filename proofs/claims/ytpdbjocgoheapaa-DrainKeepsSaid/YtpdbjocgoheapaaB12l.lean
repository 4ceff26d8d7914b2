/- Plain laws of the functions below this seat's, laid anew from another seat's text. No conditions but those that the theorems name. -/
import Derived.Test.YtpdbjocgoheapaaP12xD
import Derived.Test.YtpdbjocgoheapaaB12b
import Derived.Test.YtpdbjocgoheapaaB12c
import Derived.Test.YtpdbjocgoheapaaB12d
import Derived.Test.YtpdbjocgoheapaaB12e
import Derived.Test.YtpdbjocgoheapaaB12f
import Derived.Test.YtpdbjocgoheapaaB12g
import Derived.Test.YtpdbjocgoheapaaB12h
import Derived.Test.YtpdbjocgoheapaaB12i
import Derived.Test.YtpdbjocgoheapaaB12j
import Derived.Test.YtpdbjocgoheapaaB12k
namespace Go.Ab
open Go
set_option linter.unusedVariables false
theorem split_last {α : Type} {l : List α} {a : α} (h : l.getLast? = some a) : ∃ r, l = r ++ [a] ∧ r.length = l.length - 1 := by
  have hne : l ≠ [] := by intro e; rw [e] at h; simp at h
  rw [List.getLast?_eq_some_getLast hne] at h
  injection h with h
  exact ⟨l.dropLast, by rw [← h]; exact (List.dropLast_concat_getLast hne).symm, List.length_dropLast⟩
theorem set_last {α : Type} {r : List α} {a b : α} : (r ++ [a]).set ((r ++ [a]).length - 1) b = r ++ [b] := by
  rw [show (r ++ [a]).length - 1 = r.length by simp, List.set_append_right _ _ (Nat.le_refl _)]; simp
/-- How a packet comes to what is out. -/
theorem push_cases (out : List T_api_Packet) (p : T_api_Packet) : (pushS out p = out ++ [p] ∧ ∀ a, out.getLast? = some a → (joinS a p).2 = false) ∨ (∃ r a, out = r ++ [a] ∧ (joinS a p).2 = true ∧ pushS out p = r ++ [(joinS a p).1]) := by
  cases hl : out.getLast? with
  | none =>
    left
    refine ⟨?_, fun a ha => by cases ha⟩
    unfold pushS; rw [hl]
  | some a =>
    cases hj : (joinS a p).2
    · left
      refine ⟨?_, fun b hb => by injection hb with hb; subst hb; exact hj⟩
      unfold pushS; rw [hl]; simp only; rw [hj]; rfl
    · right
      obtain ⟨r, hr, _⟩ := split_last hl
      refine ⟨r, a, hr, hj, ?_⟩
      unfold pushS; rw [hl]; simp only; rw [hj, cond_true, hr, set_last]
structure OutK (out : List T_api_Packet) : Prop where
  ok : ∀ q ∈ out, packS q = 0
  adj : ∀ (i : Nat) (a b : T_api_Packet), out[i]? = some a → out[i + 1]? = some b → (joinS a b).2 = false
theorem OutK.push {out : List T_api_Packet} {p : T_api_Packet} (h : OutK out) (hp : packS p = 0) : OutK (pushS out p) := by
  rcases push_cases out p with ⟨e, hl⟩ | ⟨r, a, rfl, hj, e⟩
  · rw [e]
    refine ⟨fun q hq => ?_, fun i x y hx hy => ?_⟩
    · rcases List.mem_append.1 hq with hq | hq
      · exact h.ok q hq
      · simp at hq; subst hq; exact hp
    · by_cases hi : i + 1 < out.length
      · rw [List.getElem?_append_left (by omega)] at hx
        rw [List.getElem?_append_left hi] at hy
        exact h.adj i x y hx hy
      · have hlt := (List.getElem?_eq_some_iff.1 hy).1
        simp at hlt
        have hi2 : i + 1 = out.length := by omega
        rw [List.getElem?_append_right (by omega), hi2] at hy
        simp at hy; subst hy
        rw [List.getElem?_append_left (by omega)] at hx
        exact hl x (by rw [List.getLast?_eq_getElem?, show out.length - 1 = i by omega]; exact hx)
  · rw [e]
    have ha : packS a = 0 := h.ok a (by simp)
    refine ⟨fun q hq => ?_, fun i x y hx hy => ?_⟩
    · rcases List.mem_append.1 hq with hq | hq
      · exact h.ok q (by simp [hq])
      · simp at hq; subst hq; exact join_packS hj
    · by_cases hi : i + 1 < r.length
      · rw [List.getElem?_append_left (by omega)] at hx
        rw [List.getElem?_append_left hi] at hy
        exact h.adj i x y (by rw [List.getElem?_append_left (by omega)]; exact hx) (by rw [List.getElem?_append_left hi]; exact hy)
      · have hlt := (List.getElem?_eq_some_iff.1 hy).1
        simp at hlt
        have hi2 : i + 1 = r.length := by omega
        rw [List.getElem?_append_right (by omega), hi2] at hy
        simp at hy; subst hy
        rw [List.getElem?_append_left (by omega)] at hx
        have hxm : x ∈ r := List.mem_of_getElem? hx
        exact join_more (h.ok x (by simp [hxm])) ha hj (h.adj i x a (by rw [List.getElem?_append_left (by omega)]; exact hx) (by rw [List.getElem?_append_right (by omega), hi2]; simp))
def Cov (out : List T_api_Packet) (p : T_api_Packet) : Prop := ∃ q ∈ out, q.Thread = p.Thread ∧ ∃ d : Nat, q.Serial + d = p.Serial ∧ ∀ (k : Nat) (e : T_api_Event), p.Events[k]? = some e → q.Events[d + k]? = some e
theorem Cov.push_self {out : List T_api_Packet} {p : T_api_Packet} : Cov (pushS out p) p := by
  rcases push_cases out p with ⟨e, _⟩ | ⟨r, a, rfl, hj, e⟩
  · rw [e]; exact ⟨p, by simp, rfl, 0, by simp, fun k x hx => by simpa using hx⟩
  · rw [e]
    obtain ⟨h1, h2, h3, h4, h5, h6, h7, h8⟩ := joinS_true hj
    refine ⟨(joinS a p).1, by simp, by rw [h8]; exact h3, a.Events.length, by rw [h8]; exact h5.symm, fun k x hx => ?_⟩
    rw [h8]
    show (a.Events ++ p.Events)[a.Events.length + k]? = some x
    rw [List.getElem?_append_right (by omega), Nat.add_sub_cancel_left]; exact hx
theorem Cov.push {out : List T_api_Packet} {p p' : T_api_Packet} (h : Cov out p') : Cov (pushS out p) p' := by
  obtain ⟨q, hq, h1, d, h2, h3⟩ := h
  rcases push_cases out p with ⟨e, _⟩ | ⟨r, a, rfl, hj, e⟩
  · rw [e]; exact ⟨q, by simp [hq], h1, d, h2, h3⟩
  · rw [e]
    rcases List.mem_append.1 hq with hq | hq
    · exact ⟨q, by simp [hq], h1, d, h2, h3⟩
    · simp at hq; subst hq
      obtain ⟨_, _, _, _, _, _, _, h8⟩ := joinS_true hj
      refine ⟨(joinS q p).1, by simp, by rw [h8]; exact h1, d, by rw [h8]; exact h2, fun k x hx => ?_⟩
      rw [h8]
      have := h3 k x hx
      have hlt := (List.getElem?_eq_some_iff.1 this).1
      show (q.Events ++ p.Events)[d + k]? = some x
      rw [List.getElem?_append_left hlt]; exact this
def lostN (l : List T_api_Packet) : Int := (l.map (·.Lost)).sum
theorem push_sums {out : List T_api_Packet} {p : T_api_Packet} : lostN (pushS out p) = lostN out + p.Lost ∧ evN' (pushS out p) = evN' out + p.Events.length := by
  rcases push_cases out p with ⟨e, _⟩ | ⟨r, a, rfl, hj, e⟩
  · rw [e]; simp [lostN, evN']
  · rw [e]
    obtain ⟨_, _, _, h4, _, _, _, h8⟩ := joinS_true hj
    rw [h8]
    simp [lostN, evN', h4]; omega
end Go.Ab
