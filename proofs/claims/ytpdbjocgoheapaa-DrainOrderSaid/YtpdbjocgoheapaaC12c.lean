/- Drains: the order law. -/
import Derived.Test.YtpdbjocgoheapaaC12b
namespace Go.Ab
open Go
set_option linter.unusedVariables false

def VP (q : T_api_Packet) : Prop := q.Events.length ≤ 100000 ∧ ∀ e ∈ q.Events, e.Stack.length ≤ 100000
theorem evS_stack {e : T_api_Event} (h : evS e = 0) : e.Stack.length ≤ 100000 := by
  unfold evS at h
  split at h
  · cases h
  split at h
  · cases h
  split at h
  · cases h
  rename_i hb
  split at h
  · rename_i ht; exact absurd h ht
  rename_i ht
  cases hu : useStack e.Kind
  · have : evBad e = false := by cases hx : evBad e <;> simp_all
    unfold evBad at this
    rw [hu] at this
    simp at this
    have h4 := this.2.2.2
    rw [h4]; simp
  · have hn : useName e.Kind = false := by
      cases hx : useName e.Kind
      · rfl
      · have := nameStack e.Kind hx; rw [hu] at this; cases this
    unfold evText at ht
    rw [hn, hu] at ht
    simp only [Bool.false_eq_true, if_false, if_true, ne_eq, Decidable.not_not] at ht
    unfold framesS at ht
    by_cases h32 : 32 < e.Stack.length
    · rw [if_pos h32] at ht; cases ht
    · omega
theorem VP_of {p : T_api_Packet} (h : packS p = 0) : VP p := by
  have hz := packS_zero h
  exact ⟨by omega, fun e he => evS_stack (allS_zero hz.2.2.2.2.2.2.2.2 e he)⟩
theorem VP_join {a b : T_api_Packet} (h : (joinS a b).2 = true) (ha : VP a) (hb : VP b) : VP (joinS a b).1 := by
  have hev := joinS_ev (a := a) (b := b)
  refine ⟨by omega, ?_⟩
  unfold joinS at *
  by_cases hj : joinBad a b
  · rw [if_pos hj] at h; cases h
  rw [if_neg hj] at *
  by_cases h2 : headAt b.Events < lastAt a.Events ∨ a.Events.length + b.Events.length > 1000
  · rw [if_pos h2] at h; cases h
  · rw [if_neg h2]
    intro e he
    rcases List.mem_append.1 he with he | he
    · exact ha.2 e he
    · exact hb.2 e he
theorem VP_push {out : List T_api_Packet} {p : T_api_Packet} (h : ∀ q ∈ out, VP q) (hp : VP p) : ∀ q ∈ pushS out p, VP q := by
  unfold pushS
  cases hl : out.getLast? with
  | none =>
    intro q hq
    rcases List.mem_append.1 hq with hq | hq
    · exact h q hq
    · simp at hq; subst hq; exact hp
  | some a =>
    simp only
    cases hj : (joinS a p).2
    · intro q hq
      rcases List.mem_append.1 hq with hq | hq
      · exact h q hq
      · simp at hq; subst hq; exact hp
    · intro q hq
      rcases List.mem_or_eq_of_mem_set hq with hq | hq
      · exact h q hq
      · subst hq; exact VP_join hj (h a (List.mem_of_getLast? hl)) hp
theorem VP_fold : ∀ {l : List T_api_Packet} {out : List T_api_Packet}, (∀ q ∈ out, VP q) → (∀ p ∈ l, VP p) → ∀ q ∈ l.foldl pushS out, VP q := by
  intro l
  induction l with
  | nil => intro out h _; exact h
  | cons p r ih => intro out h hp; exact ih (VP_push h (hp p (by simp))) (fun q hq => hp q (by simp [hq]))
theorem run_valid {t : Int} : ∀ (l : List T_api_Packet) (st : Int × List T_api_Packet), (∀ p ∈ st.2, packS p = 0) → ∀ p ∈ (l.foldl (stp t) st).2, packS p = 0 := by
  intro l
  induction l with
  | nil => intro st h; exact h
  | cons x r ih =>
    intro st h
    refine ih (stp t st x) ?_
    unfold stp
    by_cases ha : accP st.1 (reth x t)
    · rw [if_pos ha]
      intro p hp
      rcases List.mem_append.1 hp with hp | hp
      · exact h p hp
      · simp at hp; subst hp; exact ha.1
    · rw [if_neg ha]; exact h
theorem run_len {t : Int} : ∀ (l : List T_api_Packet) (st : Int × List T_api_Packet), (l.foldl (stp t) st).2.length ≤ st.2.length + l.length := by
  intro l
  induction l with
  | nil => intro st; simp
  | cons x r ih =>
    intro st
    have h1 := ih (stp t st x)
    have h2 : (stp t st x).2.length ≤ st.2.length + 1 := by unfold stp; split <;> simp
    simp only [List.foldl_cons, List.length_cons]; omega
theorem rv0 : Rv ⟨twoL, [0, 0], []⟩ [] [] := ⟨rfl, by decide +kernel, by simp [evN'], by decide, by decide⟩
theorem new_two : drain_New 200000 twoL = some (⟨twoL, [0, 0], []⟩, 0) := by
  rw [drain_New_eq]
  decide +kernel
theorem L12_DrainOrder_plain : ∀ (a0 a1 : List T_api_Packet), okSl ok_T_api_Packet a0 → okSl ok_T_api_Packet a1 → ∃ F, L12_DrainOrder F a0 a1 = some true := by
  intro a b ha hb
  refine ⟨200000, ?_⟩
  unfold L12_DrainOrder
  rcases small_cases (l := a) (fun p hp => (ha.1 p hp).2.2.2.2) with h | ⟨h, h1⟩
  · rw [h]; simp only [Option.bind_some, Bool.not_false, cond_true, awake12]
  rcases small_cases (l := b) (fun p hp => (hb.1 p hp).2.2.2.2) with g | ⟨g, g1⟩
  · rw [h, g]; simp only [Option.bind_some, Bool.not_true, Bool.not_false, cond_true, cond_false, awake12]
  have ha2 : ∀ p ∈ a, p.Events.length ≤ 3000 := fun p hp => by have := evN_mem hp; omega
  have hb2 : ∀ p ∈ b, p.Events.length ≤ 3000 := fun p hp => by have := evN_mem hp; omega
  have hs : (a.length + evN' a) + (b.length + evN' b) ≤ 6000 := by omega
  have e0 : evN' ([] : List T_api_Packet) = 0 := rfl
  rw [h, g]
  simp only [Option.bind_some, Bool.not_true, cond_false]
  rw [show L12_two = some twoL from rfl]
  simp only [Option.bind_some, new_two]
  obtain ⟨A, B, C, m1, mA, mB, mC⟩ := order_loop1 hs ha2 hb2 200000 0 ⟨twoL, [0, 0], []⟩ ⟨twoL, [0, 0], []⟩ ⟨twoL, [0, 0], []⟩ rv0 rv0 rv0 (by simp; omega)
  rw [show L12_DrainOrder_L1 200000 a b 200000 0 twoL [0, 0] [] twoL [0, 0] [] twoL [0, 0] [] = _ from m1, Option.bind_some]
  simp only
  obtain ⟨A', k1, kA⟩ := order_loop2 (A := A) hs hb2 200000 0 A (by simpa using mA) (by simp; omega)
  rw [show L12_DrainOrder_L2 200000 b 200000 0 A.Threads A.Next A.Queue = _ from k1, Option.bind_some]
  obtain ⟨B', k2, kB⟩ := order_loop3 hs ha2 200000 0 B (by simpa using mB) (by simp; omega)
  rw [show L12_DrainOrder_L3 200000 a 200000 0 B.Threads B.Next B.Queue = _ from k2, Option.bind_some]
  simp only
  rw [flush_ok kA hs, flush_ok kB hs, flush_ok mC hs]
  simp only [Option.bind_some]
  rw [flush_parts kA, flush_parts kB, flush_parts mC]
  have hva := run_valid (t := 1) a (0, []) (by simp)
  have hvb := run_valid (t := 2) b (0, []) (by simp)
  have hla := run_len (t := 1) a (0, [])
  have hlb := run_len (t := 2) b (0, [])
  have f1 := fold_len (l := (runT 1 a).2) (out := [])
  have f2 := fold_len (l := (runT 2 b).2) (out := (runT 1 a).2.foldl pushS [])
  have hX : R12_SamePackets 200000 ((runT 2 b).2.foldl pushS ((runT 1 a).2.foldl pushS [])) ((runT 2 b).2.foldl pushS ((runT 1 a).2.foldl pushS [])) = some true :=
    R12_SamePackets_self (by unfold runT at *; simp only [List.length_nil] at *; omega) (VP_fold (VP_fold (by simp) (fun p hp => VP_of (hva p hp))) (fun p hp => VP_of (hvb p hp)))
  simp only [hX, Option.bind_some, cond_true, awake12]
end Go.Ab
