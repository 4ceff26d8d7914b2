/- Column values: both checks compute valS. -/
import Derived.Test.YtefkcplneflhgaaP33xD
import Derived.Test.YtefkcplneflhgaaR33
namespace Go.Ab
open Go
set_option linter.unusedVariables false

def valS (k : Int) (a : T_api_Value) : Int :=
  if a.Kind ≠ 0 ∧ (a.Kind ≠ k ∨ k < 1 ∨ k > 3) then 14 else
  if (a.Kind = 1 ∧ a.N ≠ 0 ∧ a.N ≠ 1) ∨ (a.Kind = 2 ∧ (a.N < -1000000000000000 ∨ a.N > 1000000000000000)) then 2 else
  if a.Kind = 3 ∧ a.S.length > 200 then 7 else if a.Kind ≠ 3 ∧ a.S ≠ [] then 1 else if (a.Kind = 0 ∨ a.Kind = 3) ∧ a.N ≠ 0 then 1 else 0
theorem bind_to {α β : Type} {A : Option α} {f : α → Option β} {r : Option β} (x : α) (h : A = some x) (hr : f x = r) : A.bind f = r := by rw [h]; exact hr
theorem beq_dec {a b : Int} : (a == b) = decide (a = b) := rfl
theorem column_Value_eq {k : Int} {a : T_api_Value} : column_Value k a = some (valS k a) := by
  unfold column_Value num_In valS
  have hk : ((a.Kind != (0 : Int)) && ((a.Kind != k) || !((k == (1 : Int)) || ((k == (2 : Int)) || (k == (3 : Int)))))) = decide (a.Kind ≠ 0 ∧ (a.Kind ≠ k ∨ k < 1 ∨ k > 3)) := by
    by_cases h : a.Kind ≠ 0 ∧ (a.Kind ≠ k ∨ k < 1 ∨ k > 3)
    · rw [dec_t h]; simp; omega
    · rw [dec_f h]; simp; omega
  rw [hk]
  by_cases h1 : a.Kind ≠ 0 ∧ (a.Kind ≠ k ∨ k < 1 ∨ k > 3)
  · rw [dec_t h1, if_pos h1]; rfl
  rw [dec_f h1, cond_false, if_neg h1]
  have hn : ((bif ((a.Kind == (1 : Int)) && ((a.N != (0 : Int)) && (a.N != (1 : Int)))) then some ((a.Kind == (1 : Int)) && ((a.N != (0 : Int)) && (a.N != (1 : Int)))) else
      (( bif (a.Kind == (2 : Int)) then ((some (decide (a.N ≥ (-1000000000000000 : Int)) && decide (a.N ≤ (1000000000000000 : Int)))).bind fun r_1 => some (!r_1)) else ( some false))).bind fun (p_1 : Bool) => some p_1) : Option Bool) =
      some (decide ((a.Kind = 1 ∧ a.N ≠ 0 ∧ a.N ≠ 1) ∨ (a.Kind = 2 ∧ (a.N < -1000000000000000 ∨ a.N > 1000000000000000)))) := by
    by_cases k1 : a.Kind = 1
    · rw [k1]
      by_cases k2 : a.N ≠ 0 ∧ a.N ≠ 1
      · rw [show ((1 : Int) == 1 && (a.N != 0 && a.N != 1)) = true by simpa using k2]; exact congrArg some (decide_eq_true (by omega)).symm
      · rw [show ((1 : Int) == 1 && (a.N != 0 && a.N != 1)) = false by simp; omega]; exact congrArg some (decide_eq_false (by omega)).symm
    · rw [beq_f k1, Bool.false_and, cond_false]
      by_cases k2 : a.Kind = 2
      · rw [beq_t k2, cond_true, Option.bind_some, Option.bind_some]
        congr 1
        by_cases k3 : a.N < -1000000000000000 ∨ a.N > 1000000000000000
        · exact Eq.trans (show _ = true by simp; omega) (decide_eq_true (.inr ⟨k2, k3⟩)).symm
        · exact Eq.trans (show _ = false by simp; omega) (decide_eq_false (by omega)).symm
      · rw [beq_f k2]; exact congrArg some (decide_eq_false (by omega)).symm
  refine (congrArg (fun o => Option.bind o _) hn).trans ?_
  rw [Option.bind_some]
  by_cases h2 : (a.Kind = 1 ∧ a.N ≠ 0 ∧ a.N ≠ 1) ∨ (a.Kind = 2 ∧ (a.N < -1000000000000000 ∨ a.N > 1000000000000000))
  · rw [dec_t h2, if_pos h2]; rfl
  rw [dec_f h2, if_neg h2, cond_false]
  by_cases k3 : a.Kind = 3
  · rw [k3]
    by_cases h3 : a.S.length > 200
    · rw [if_pos ⟨rfl, h3⟩, dec_t (by omega)]; rfl
    · rw [if_neg (fun h => h3 h.2), dec_f (by omega), if_neg (fun h => h.1 rfl)]
      by_cases h4 : a.N ≠ 0
      · rw [if_pos ⟨.inr rfl, h4⟩, bne_t h4]; rfl
      · rw [if_neg (fun h => h4 h.2), bne_f (show a.N = 0 by omega)]; rfl
  · rw [beq_f k3, Bool.false_and, cond_false, if_neg (fun h => k3 h.1), bne_t k3, Bool.true_and]
    by_cases h4 : a.S ≠ []
    · rw [if_pos ⟨k3, h4⟩, show (!(a.S == ([] : List Int))) = true by simpa using h4]; rfl
    · rw [if_neg (fun h => h4 h.2), show (!(a.S == ([] : List Int))) = false by simpa using h4, cond_false]
      by_cases k0 : a.Kind = 0
      · rw [beq_t k0, cond_true]
        by_cases h5 : a.N ≠ 0
        · rw [bne_t h5, if_pos ⟨.inl k0, h5⟩]; rfl
        · rw [bne_f (by omega), if_neg (fun h => h5 h.2)]; rfl
      · rw [beq_f k0, cond_false, Bool.false_and, if_neg (by omega)]; rfl
theorem R33_Value_eq {k : Int} {a : T_api_Value} : R33_Value k a = some (valS k a) := by
  unfold R33_Value R01_In valS
  have hk : ((a.Kind != (0 : Int)) && ((a.Kind != k) || (decide (k < 1) || decide (k > 3)))) = decide (a.Kind ≠ 0 ∧ (a.Kind ≠ k ∨ k < 1 ∨ k > 3)) := by
    by_cases h : a.Kind ≠ 0 ∧ (a.Kind ≠ k ∨ k < 1 ∨ k > 3)
    · rw [dec_t h]; simp; omega
    · rw [dec_f h]; simp; omega
  rw [hk]
  by_cases h1 : a.Kind ≠ 0 ∧ (a.Kind ≠ k ∨ k < 1 ∨ k > 3)
  · rw [dec_t h1, if_pos h1]; rfl
  rw [dec_f h1, cond_false, if_neg h1]
  refine bind_to (decide ((a.Kind = 1 ∧ a.N ≠ 0 ∧ a.N ≠ 1) ∨ (a.Kind = 2 ∧ (a.N < -1000000000000000 ∨ a.N > 1000000000000000)))) ?_ ?_
  · have e2 : ∀ (A : Option Bool), (bif (a.Kind == (2 : Int)) then ((some (decide (a.N ≥ (-1000000000000000 : Int)) && decide (a.N ≤ (1000000000000000 : Int)))).bind fun r_1 => some (!r_1)) else ( some false)) = A → A = some (decide (a.Kind = 2 ∧ (a.N < -1000000000000000 ∨ a.N > 1000000000000000))) := by
      intro A hA
      rw [← hA]
      by_cases k2 : a.Kind = 2
      · rw [beq_t k2, cond_true, Option.bind_some]
        congr 1
        by_cases k3 : a.N < -1000000000000000 ∨ a.N > 1000000000000000
        · exact Eq.trans (show _ = true by simp; omega) (decide_eq_true ⟨k2, k3⟩).symm
        · exact Eq.trans (show _ = false by simp; omega) (decide_eq_false (fun h => k3 h.2)).symm
      · rw [beq_f k2]; exact congrArg some (decide_eq_false (by omega)).symm
    rw [e2 _ rfl]
    by_cases k1 : a.Kind = 1
    · rw [beq_t k1, cond_true]
      by_cases h2 : a.N < 0
      · rw [dec_t h2, cond_true]; exact congrArg some (decide_eq_true (by omega)).symm
      · rw [dec_f h2, cond_false]
        by_cases h3 : a.N > 1
        · rw [dec_t h3, cond_true]; exact congrArg some (decide_eq_true (by omega)).symm
        · rw [dec_f h3, cond_false]; exact congrArg some ((decide_eq_false (by omega)).trans (decide_eq_false (by omega)).symm)
    · rw [beq_f k1, cond_false]
      congr 1
      by_cases h2 : a.Kind = 2 ∧ (a.N < -1000000000000000 ∨ a.N > 1000000000000000)
      · exact (decide_eq_true h2).trans (decide_eq_true (.inr h2)).symm
      · exact (decide_eq_false h2).trans (decide_eq_false (by omega)).symm
  by_cases h2 : (a.Kind = 1 ∧ a.N ≠ 0 ∧ a.N ≠ 1) ∨ (a.Kind = 2 ∧ (a.N < -1000000000000000 ∨ a.N > 1000000000000000))
  · rw [dec_t h2, if_pos h2]; rfl
  rw [dec_f h2, if_neg h2, cond_false]
  by_cases k3 : a.Kind = 3
  · rw [k3]
    by_cases h3 : a.S.length > 200
    · rw [if_pos ⟨rfl, h3⟩, dec_t (by omega)]; rfl
    · rw [if_neg (fun h => h3 h.2), dec_f (by omega), if_neg (fun h => h.1 rfl)]
      by_cases h4 : a.N ≠ 0
      · rw [if_pos ⟨.inr rfl, h4⟩, bne_t h4]; rfl
      · rw [if_neg (fun h => h4 h.2), bne_f (show a.N = 0 by omega)]; rfl
  · rw [beq_f k3, Bool.false_and, cond_false, if_neg (fun h => k3 h.1), bne_t k3, cond_true]
    by_cases h4 : a.S ≠ []
    · rw [if_pos ⟨k3, h4⟩, show (!(a.S == ([] : List Int))) = true by simpa using h4]; rfl
    · rw [if_neg (fun h => h4 h.2), show (!(a.S == ([] : List Int))) = false by simpa using h4, Bool.false_or]
      by_cases k0 : a.Kind = 0
      · rw [beq_t k0, cond_true]
        by_cases h5 : a.N ≠ 0
        · rw [bne_t h5, if_pos ⟨.inl k0, h5⟩]; rfl
        · rw [bne_f (by omega), if_neg (fun h => h5 h.2)]; rfl
      · rw [beq_f k0, cond_false, Bool.false_and, if_neg (by omega)]; rfl
theorem awake33 : L33_awake 200000 = some true := by kernel_rfl
theorem L33_ColumnValues_plain : ∀ (a0 : Int) (a1 : T_api_Value), okI64 a0 → ok_T_api_Value a1 → ∃ F, L33_ColumnValues F a0 a1 = some true := by
  intro k a hk ha
  refine ⟨200000, ?_⟩
  unfold L33_ColumnValues
  rw [column_Value_eq, R33_Value_eq]
  simp only [Option.bind_some, BEq.rfl, cond_true, awake33]
  cases decide ((a.S.length : Int) > 300) <;> rfl
end Go.Ab
