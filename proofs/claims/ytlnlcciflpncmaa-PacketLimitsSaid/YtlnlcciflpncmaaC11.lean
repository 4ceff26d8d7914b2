/- Packets: checks, limits, joining and splitting. -/
import Derived.Test.YtlnlcciflpncmaaB11d
import Derived.Test.YtlnlcciflpncmaaR11
namespace Go.Ab
open Go
set_option linter.unusedVariables false

theorem bind_at {α β : Type} {A : Option α} {f : α → Option β} {r : Option β} (x : α) (h : A = some x) (hr : f x = r) : A.bind f = r := by rw [h]; exact hr
theorem lives11 : L11_lives 200000 = some true := by kernel_rfl
def evN (i : Nat) : T_api_Event := ⟨(i : Int), 3, [97], 0, 0, []⟩
def evsN (s n : Nat) : List T_api_Event := (List.range' s n).map evN
theorem evS_evN {i : Nat} (h : i ≤ 2000) : evS (evN i) = 0 := by
  unfold evS evN
  rw [if_neg (by simp only; omega), if_neg (by simp)]
  rfl
theorem allS_evsN : ∀ (n s : Nat) (p : Option Int), (∀ a, p = some a → a ≤ s) → s + n ≤ 2000 → allS p (evsN s n) = 0 := by
  intro n
  induction n with
  | zero => intro s p _ _; rfl
  | succ n ih =>
    intro s p hp hs
    unfold evsN
    rw [List.range'_succ, List.map_cons]
    simp only [allS]
    rw [if_neg (by rw [evS_evN (by omega)]; simp)]
    have : p.any (fun a => decide ((evN s).At < a)) = false := by
      cases p with
      | none => rfl
      | some a => have := hp a rfl; exact dec_f (by simp only [evN]; omega)
    rw [this, cond_false]
    exact ih (s + 1) (some (evN s).At) (fun a ha => by cases ha; simp [evN]; omega) (by omega)
theorem limits_loop {n : Nat} (hn : n ≤ 1100) : ∀ (k i : Nat) (f : Nat), i + k = n → k < f → L11_PacketLimits_L1 200000 (n : Int) f (i : Nat) (evsN 0 i) = some (evsN 0 n) := by
  intro k
  induction k with
  | zero =>
    intro i f hi hf
    obtain ⟨g, rfl⟩ : ∃ g, f = g + 1 := ⟨f - 1, by omega⟩
    show L11_PacketLimits_L1_body _ _ _ _ _ = _
    unfold L11_PacketLimits_L1_body
    rw [dec_f (by omega), cond_false, show i = n by omega]
  | succ k ih =>
    intro i f hi hf
    obtain ⟨g, rfl⟩ : ∃ g, f = g + 1 := ⟨f - 1, by omega⟩
    show L11_PacketLimits_L1_body _ _ _ _ _ = _
    unfold L11_PacketLimits_L1_body
    have hl : (evsN 0 i).length = i := by simp [evsN]
    rw [dec_t (by omega), cond_true, need_t (by rw [hl]; simp; omega), Option.bind_some, step64 (by omega), ← ih (i + 1) g (by omega) (by omega)]
    congr 1
    unfold evsN
    rw [List.range'_concat, List.map_append]; simp [evN]
theorem L11_PacketLimits_plain : ∀ (a0 a1 : Int), okI64 a0 → okI64 a1 → ∃ F, L11_PacketLimits F a0 a1 = some true := by
  intro n serial hn hs
  refine ⟨200000, ?_⟩
  unfold L11_PacketLimits
  by_cases h : n < 0 ∨ n > 1100
  · rw [or_t h]; simp only [cond_true, Option.bind_some, lives11]
  rw [or_f h, cond_false]
  obtain ⟨m, rfl⟩ := Int.eq_ofNat_of_zero_le (show 0 ≤ n by omega)
  rw [show L11_PacketLimits_L1 200000 (m : Int) 200000 0 [] = _ from limits_loop (n := m) (by omega) m 0 200000 (by omega) (by omega), Option.bind_some]
  have hl : (evsN 0 m).length = m := by simp [evsN]
  refine bind_at (packS ⟨1, serial, 0, evsN 0 m⟩) ?_ ?_
  · unfold okI64 at hs
    rw [w64 (by omega) (by omega)]
    unfold packS
    by_cases h1 : serial < 0 ∨ serial > 1000000000000000 - (m : Int)
    · rw [or_t h1, if_pos (show packBad _ by unfold packBad outP; simp only [hl]; omega)]; rfl
    rw [or_f h1, cond_false, if_neg (show ¬ packBad _ by unfold packBad outP; simp only [hl]; omega)]
    simp only [hl]
    by_cases h2 : m = 0
    · rw [beq_t (by omega), if_pos h2]; rfl
    rw [beq_f (by omega), cond_false, if_neg h2]
    by_cases h3 : m > 1000
    · rw [dec_t (by omega), if_pos h3]; rfl
    · rw [dec_f (by omega), if_neg h3, cond_false, allS_evsN m 0 none (fun a ha => by cases ha) (by omega)]
  · rw [packet_Check_eq (by simp only [hl]; omega)]
    simp only [Option.bind_some, BEq.rfl, cond_true, lives11]
end Go.Ab
