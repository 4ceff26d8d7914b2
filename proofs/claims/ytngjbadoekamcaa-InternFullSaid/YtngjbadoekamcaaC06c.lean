/- InternPuts. -/
import Derived.Test.YtngjbadoekamcaaC06b
import Derived.Test.YtngjbadoekamcaaR6
namespace Go.Ab
open Go
set_option linter.unusedVariables false

theorem putL_len {names0 : List (List Int)} {stacks0 : List Arr2_Int} : ∀ (l : List (List Int)) (at_ : Int) (n : List (List Int)) (s : List Arr2_Int),
    (putL names0 stacks0 l at_ n s).2.1.length ≤ max names0.length (n.length + l.length) ∧ (putL names0 stacks0 l at_ n s).2.2.1.length ≤ max stacks0.length (s.length + l.length) := by
  intro l
  induction l with
  | nil => intro at_ n s; simp only [putL, List.length_nil]; omega
  | cons x r ih =>
    intro at_ n s
    have hpl := putS06_len n x
    simp only [putL, List.length_cons]
    generalize putS06 n x = q at *
    split
    · simp only; omega
    · split
      · have := ih (findI (⟨at_, q.1⟩ : Arr2_Int) 0 s) q.2.1 s; omega
      · split
        · simp only; omega
        · have := ih (s.length : Int) q.2.1 (s ++ [⟨at_, q.1⟩])
          simp only [List.length_append, List.length_singleton] at this
          omega
theorem putStackS_len {names : List (List Int)} {stacks : List Arr2_Int} {l : List (List Int)} : (putStackS names stacks l).2.1.length ≤ names.length + l.length ∧ (putStackS names stacks l).2.2.1.length ≤ stacks.length + l.length := by
  unfold putStackS
  split
  · simp
  · have := putL_len (names0 := names) (stacks0 := stacks) l (-1) names stacks; omega
theorem small06 {t : T_tracebooklaw06_Tables} : L06_small t = some (decide ((t.Names.length : Int) ≤ 1100) && decide ((t.Stacks.length : Int) ≤ 1100)) := rfl

theorem L06_InternPuts_plain : ∀ (a0 : T_tracebooklaw06_Tables) (a1 : List Int) (a2 : List (List Int)), ok_T_tracebooklaw06_Tables a0 → okStr a1 → (okSl okStr) a2 → ∃ F, L06_InternPuts F a0 a1 a2 = some true := by
  intro t s l _ _ _
  refine ⟨200000, ?_⟩
  unfold L06_InternPuts
  rw [small06, Option.bind_some]
  by_cases h : (t.Names.length : Int) ≤ 1100 ∧ (t.Stacks.length : Int) ≤ 1100
  case neg =>
    have : (decide ((t.Names.length : Int) ≤ 1100) && decide ((t.Stacks.length : Int) ≤ 1100)) = false := by simpa using h
    rw [this]; simp only [Bool.not_false, cond_true, Option.bind_some]; rw [awake06]; rfl
  rw [dec_t h.1, dec_t h.2]
  simp only [Bool.and_self, Bool.not_true, cond_false, Option.bind_some]
  by_cases hl : (l.length : Int) > 100
  · rw [dec_t hl, cond_true, awake06]; rfl
  rw [dec_f hl, cond_false, intern_Put_eq (by omega), Option.bind_some, R06_Put_eq (by omega), Option.bind_some, bne_f rfl, cond_false, bne_f rfl, cond_false]
  have h1 := putS06_len t.Names s
  rw [SameNames_self (by omega), Option.bind_some, Option.bind_some]
  simp only [Bool.not_true, cond_false]
  rw [intern_PutStack_eq (by omega) (by omega), Option.bind_some, R06_PutStack_eq (by omega) (by omega), Option.bind_some, BEq.rfl, cond_true, BEq.rfl, cond_true]
  have h2 := putStackS_len (names := t.Names) (stacks := t.Stacks) (l := l)
  rw [SameNames_self (by omega), Option.bind_some, cond_true, SameStacks_self (by omega), Option.bind_some, cond_true, awake06]; rfl
end Go.Ab
