/- Plain laws of the functions below this seat's, laid anew from another seat's text. No conditions but those that the theorems name. -/
import Derived.Test.YtpdbjocgoheapaaP12xD
import Derived.Test.YtpdbjocgoheapaaB12b
import Derived.Test.YtpdbjocgoheapaaB12c
import Derived.Test.YtpdbjocgoheapaaB12d
import Derived.Test.YtpdbjocgoheapaaB12e
import Derived.Test.YtpdbjocgoheapaaB12f
import Derived.Test.YtpdbjocgoheapaaB12g
import Derived.Test.YtpdbjocgoheapaaB12h
import Derived.Test.YtpdbjocgoheapaaB12i
import Derived.Test.YtpdbjocgoheapaaB12j
namespace Go.Ab
open Go
set_option linter.unusedVariables false
theorem allS_app : ∀ (x y : List T_api_Event) (p : Option Int), allS p (x ++ y) = if allS p x ≠ 0 then allS p x else allS (if x = [] then p else some (lastAt x)) y := by
  intro x
  induction x with
  | nil => intro y p; simp [allS]
  | cons e r ih =>
    intro y p
    have hc : ∀ z, allS p (e :: z) = if evS e ≠ 0 then evS e else bif p.any (fun a => decide (e.At < a)) then 11 else allS (some e.At) z := fun z => rfl
    rw [List.cons_append, hc, hc]
    by_cases he : evS e ≠ 0
    · rw [if_pos he, if_pos he, if_pos he]
    rw [if_neg he, if_neg he]
    cases hp : p.any (fun a => decide (e.At < a))
    · rw [cond_false, cond_false, ih y (some e.At)]
      have hl : (if r = [] then some e.At else some (lastAt r)) = (if e :: r = [] then p else some (lastAt (e :: r))) := by
        rw [if_neg (show ¬ e :: r = [] by simp)]
        by_cases hr : r = []
        · rw [if_pos hr, hr]; rfl
        · rw [if_neg hr]; unfold lastAt; rw [List.getLast?_cons_of_ne_nil hr]
      rw [hl]
    · rfl
theorem allS_prev {y : List T_api_Event} {a : Int} (hy : 0 < y.length) : allS (some a) y = 0 ↔ allS none y = 0 ∧ a ≤ headAt y := by
  cases y with
  | nil => simp at hy
  | cons e r =>
    simp only [allS]
    have hh : headAt (e :: r) = e.At := rfl
    rw [hh]
    by_cases he : evS e ≠ 0
    · rw [if_pos he, if_pos he]; omega
    rw [if_neg he, if_neg he]
    simp only [Option.any_some, Option.any_none, cond_false]
    by_cases h : e.At < a
    · rw [dec_t h]; simp; omega
    · rw [dec_f h, cond_false]; constructor
      · intro h2; exact ⟨h2, by omega⟩
      · intro h2; exact h2.1
theorem allS_app0 {x y : List T_api_Event} (hx : 0 < x.length) (hy : 0 < y.length) : allS none (x ++ y) = 0 ↔ allS none x = 0 ∧ allS none y = 0 ∧ lastAt x ≤ headAt y := by
  have hne : x ≠ [] := by intro e; rw [e] at hx; simp at hx
  rw [allS_app]
  by_cases h : allS none x ≠ 0
  · rw [if_pos h]; constructor
    · intro g; exact absurd g h
    · intro g; exact absurd g.1 h
  · rw [if_neg h, if_neg hne, allS_prev hy]
    constructor
    · intro g; exact ⟨by omega, g⟩
    · intro g; exact g.2
theorem packS_iff {p : T_api_Packet} : packS p = 0 ↔ ¬ packBad p ∧ 0 < p.Events.length ∧ p.Events.length ≤ 1000 ∧ allS none p.Events = 0 := by
  unfold packS
  by_cases h1 : packBad p
  · rw [if_pos h1]; simp [h1]
  rw [if_neg h1]
  by_cases h2 : p.Events.length = 0
  · rw [if_pos h2]; simp [h2]
  rw [if_neg h2]
  by_cases h3 : p.Events.length > 1000
  · rw [if_pos h3]; simp; omega
  · rw [if_neg h3]
    constructor
    · intro h; exact ⟨h1, by omega, by omega, h⟩
    · intro h; exact h.2.2.2
theorem joinS_true {a b : T_api_Packet} (h : (joinS a b).2 = true) : packS a = 0 ∧ packS b = 0 ∧ a.Thread = b.Thread ∧ b.Lost = 0 ∧ b.Serial = a.Serial + a.Events.length ∧ lastAt a.Events ≤ headAt b.Events ∧ a.Events.length + b.Events.length ≤ 1000 ∧ joinS a b = (⟨a.Thread, a.Serial, a.Lost, a.Events ++ b.Events⟩, true) := by
  unfold joinS at *
  by_cases hj : joinBad a b
  · rw [if_pos hj] at h; cases h
  rw [if_neg hj] at *
  by_cases h2 : headAt b.Events < lastAt a.Events ∨ a.Events.length + b.Events.length > 1000
  · rw [if_pos h2] at h; cases h
  · rw [if_neg h2]
    unfold joinBad at hj
    exact ⟨by omega, by omega, by omega, by omega, by omega, by omega, by omega, rfl⟩
theorem join_packS {a b : T_api_Packet} (h : (joinS a b).2 = true) : packS (joinS a b).1 = 0 := by
  obtain ⟨h1, h2, h3, h4, h5, h6, h7, h8⟩ := joinS_true h
  rw [h8]
  have za := packS_zero h1
  have zb := packS_zero h2
  rw [packS_iff]
  refine ⟨?_, by simp; omega, by simp; omega, (allS_app0 za.2.2.2.2.2.2.1 zb.2.2.2.2.2.2.1).2 ⟨za.2.2.2.2.2.2.2.2, zb.2.2.2.2.2.2.2.2, h6⟩⟩
  unfold packBad outP
  simp only [List.length_append]
  omega
theorem joinS_ok {a b : T_api_Packet} (h1 : packS a = 0) (h2 : packS b = 0) (h3 : a.Thread = b.Thread) (h4 : b.Lost = 0) (h5 : b.Serial = a.Serial + a.Events.length) (h6 : lastAt a.Events ≤ headAt b.Events) (h7 : a.Events.length + b.Events.length ≤ 1000) : (joinS a b).2 = true := by
  unfold joinS
  rw [if_neg (show ¬ joinBad a b by unfold joinBad; omega), if_neg (by omega)]
/-- What could not be joined cannot when more is at its end. -/
theorem join_more {a b c : T_api_Packet} (h1 : packS a = 0) (h2 : packS b = 0) (hbc : (joinS b c).2 = true) (h : (joinS a b).2 = false) : (joinS a (joinS b c).1).2 = false := by
  obtain ⟨k1, k2, k3, k4, k5, k6, k7, k8⟩ := joinS_true hbc
  have hz := packS_zero h2
  cases hj : (joinS a (joinS b c).1).2
  · rfl
  · exfalso
    obtain ⟨m1, m2, m3, m4, m5, m6, m7, _⟩ := joinS_true hj
    rw [k8] at m3 m4 m5 m6 m7
    simp only [List.length_append] at m3 m4 m5 m6 m7
    have hh : headAt (b.Events ++ c.Events) = headAt b.Events := by
      unfold headAt
      cases hb : b.Events with
      | nil => rw [hb] at hz; simp at hz
      | cons x r => rfl
    rw [hh] at m6
    rw [joinS_ok h1 h2 m3 m4 m5 m6 (by omega)] at h
    cases h
end Go.Ab
