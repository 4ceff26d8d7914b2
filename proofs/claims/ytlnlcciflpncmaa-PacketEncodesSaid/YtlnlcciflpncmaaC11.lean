/- Packets: checks, limits, joining and splitting. -/
import Derived.Test.YtlnlcciflpncmaaB11d
import Derived.Test.YtlnlcciflpncmaaR11
namespace Go.Ab
open Go
set_option linter.unusedVariables false
theorem lives11 : L11_lives 200000 = some true := by kernel_rfl
theorem few_cases (p : T_api_Packet) : L11_few 200000 p = some false ∨ (L11_few 200000 p = some true ∧ p.Events.length ≤ 30 ∧ ∀ e ∈ p.Events, e.Stack.length ≤ 40) := by
 unfold L11_few
 by_cases hl : (p.Events.length : Int) > 30
 ·rw [dec_t hl]; exact .inl rfl
 rw [dec_f hl, cond_false]
 have hloop := bad_loop (l := p.Events) (L11_few_L1 200000 p) (fun _ x => if x.Stack.length > 40 then some false else none) (fun n i hi => by
  show L11_few_L1_body 200000 p _ _ = _
  unfold L11_few_L1_body
  rw [dec_f (by omega)]; rfl) (fun n i x r hd hlt => by
  refine ⟨fun b hb => ?_, fun hb => ?_⟩
  ·show L11_few_L1_body 200000 p _ _ = _
   unfold L11_few_L1_body
   by_cases ho : x.Stack.length > 40
   ·rw [if_pos ho] at hb; cases hb
    rw [dec_t (by omega), cond_true, idxL_drop hd, Option.bind_some, dec_t (by omega)]; rfl
   ·rw [if_neg ho] at hb; cases hb
  ·show L11_few_L1_body 200000 p _ _ = _
   unfold L11_few_L1_body
   by_cases ho : x.Stack.length > 40
   ·rw [if_pos ho] at hb; cases hb
   ·rw [dec_t (by omega), cond_true, idxL_drop hd, Option.bind_some, dec_f (by omega), cond_false, step64 (by omega)]) (n := 200000) (by omega)
 rw [hloop, Option.bind_some]
 have key : ∀ (l : List T_api_Event) (i : Nat), firstBad (fun _ (x : T_api_Event) => if x.Stack.length > 40 then some false else none) i l = .inr false ∨ firstBad (fun _ (x : T_api_Event) => if x.Stack.length > 40 then some false else none) i l = .inl () ∧ ∀ e ∈ l, e.Stack.length ≤ 40 := by
  intro l
  induction l with
  | nil => intro i; exact .inr ⟨rfl, fun e he => by cases he⟩
  | cons x r ih =>
   intro i
   simp only [firstBad]
   by_cases ho : x.Stack.length > 40
   ·simp only [if_pos ho]; exact .inl trivial
   ·simp only [if_neg ho]
    rcases ih (i + 1) with h | ⟨h, h2⟩
    ·exact .inl h
    ·exact .inr ⟨h, fun e he => (List.mem_cons.1 he).elim (fun h => by rw [h]; omega) (h2 e)⟩
 rcases key p.Events 0 with h | ⟨h, h2⟩
 ·rw [h]; exact .inl rfl
 ·rw [h]; exact .inr ⟨rfl, by omega, h2⟩
end Go.Ab
