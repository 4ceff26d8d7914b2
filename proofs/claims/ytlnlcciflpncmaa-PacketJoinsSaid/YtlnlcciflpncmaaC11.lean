/- Packets: checks, limits, joining and splitting. -/
import Derived.Test.YtlnlcciflpncmaaB11d
import Derived.Test.YtlnlcciflpncmaaR11
namespace Go.Ab
open Go
set_option linter.unusedVariables false

theorem lives11 : L11_lives 200000 = some true := by kernel_rfl
theorem few_cases (p : T_api_Packet) : L11_few 200000 p = some false ∨ (L11_few 200000 p = some true ∧ p.Events.length ≤ 30 ∧ ∀ e ∈ p.Events, e.Stack.length ≤ 40) := by
  unfold L11_few
  by_cases hl : (p.Events.length : Int) > 30
  · rw [dec_t hl]; exact .inl rfl
  rw [dec_f hl, cond_false]
  have hloop := bad_loop (l := p.Events) (L11_few_L1 200000 p) (fun _ x => if x.Stack.length > 40 then some false else none) (fun n i hi => by
    show L11_few_L1_body 200000 p _ _ = _
    unfold L11_few_L1_body
    rw [dec_f (by omega)]; rfl) (fun n i x r hd hlt => by
    refine ⟨fun b hb => ?_, fun hb => ?_⟩
    · show L11_few_L1_body 200000 p _ _ = _
      unfold L11_few_L1_body
      by_cases ho : x.Stack.length > 40
      · rw [if_pos ho] at hb; cases hb
        rw [dec_t (by omega), cond_true, idxL_drop hd, Option.bind_some, dec_t (by omega)]; rfl
      · rw [if_neg ho] at hb; cases hb
    · show L11_few_L1_body 200000 p _ _ = _
      unfold L11_few_L1_body
      by_cases ho : x.Stack.length > 40
      · rw [if_pos ho] at hb; cases hb
      · rw [dec_t (by omega), cond_true, idxL_drop hd, Option.bind_some, dec_f (by omega), cond_false, step64 (by omega)]) (n := 200000) (by omega)
  rw [hloop, Option.bind_some]
  have key : ∀ (l : List T_api_Event) (i : Nat), firstBad (fun _ (x : T_api_Event) => if x.Stack.length > 40 then some false else none) i l = .inr false ∨ firstBad (fun _ (x : T_api_Event) => if x.Stack.length > 40 then some false else none) i l = .inl () ∧ ∀ e ∈ l, e.Stack.length ≤ 40 := by
    intro l
    induction l with
    | nil => intro i; exact .inr ⟨rfl, fun e he => by cases he⟩
    | cons x r ih =>
      intro i
      simp only [firstBad]
      by_cases ho : x.Stack.length > 40
      · simp only [if_pos ho]; exact .inl trivial
      · simp only [if_neg ho]
        rcases ih (i + 1) with h | ⟨h, h2⟩
        · exact .inl h
        · exact .inr ⟨h, fun e he => (List.mem_cons.1 he).elim (fun h => by rw [h]; omega) (h2 e)⟩
  rcases key p.Events 0 with h | ⟨h, h2⟩
  · rw [h]; exact .inl rfl
  · rw [h]; exact .inr ⟨rfl, by omega, h2⟩
theorem allS_app : ∀ (x y : List T_api_Event) (p : Option Int), allS p (x ++ y) = if allS p x ≠ 0 then allS p x else allS (if x = [] then p else some (lastAt x)) y := by
  intro x
  induction x with
  | nil => intro y p; simp [allS]
  | cons e r ih =>
    intro y p
    have hc : ∀ z, allS p (e :: z) = if evS e ≠ 0 then evS e else bif p.any (fun a => decide (e.At < a)) then 11 else allS (some e.At) z := fun z => rfl
    rw [List.cons_append, hc, hc]
    by_cases he : evS e ≠ 0
    · rw [if_pos he, if_pos he, if_pos he]
    rw [if_neg he, if_neg he]
    cases hp : p.any (fun a => decide (e.At < a))
    · rw [cond_false, cond_false, ih y (some e.At)]
      have hl : (if r = [] then some e.At else some (lastAt r)) = (if e :: r = [] then p else some (lastAt (e :: r))) := by
        rw [if_neg (show ¬ e :: r = [] by simp)]
        by_cases hr : r = []
        · rw [if_pos hr, hr]; rfl
        · rw [if_neg hr]; unfold lastAt; rw [List.getLast?_cons_of_ne_nil hr]
      rw [hl]
    · rfl
theorem allS_prev {y : List T_api_Event} {a : Int} (hy : 0 < y.length) : allS (some a) y = 0 ↔ allS none y = 0 ∧ a ≤ headAt y := by
  cases y with
  | nil => simp at hy
  | cons e r =>
    simp only [allS]
    have hh : headAt (e :: r) = e.At := rfl
    rw [hh]
    by_cases he : evS e ≠ 0
    · rw [if_pos he, if_pos he]; omega
    rw [if_neg he, if_neg he]
    simp only [Option.any_some, Option.any_none, cond_false]
    by_cases h : e.At < a
    · rw [dec_t h]; simp; omega
    · rw [dec_f h, cond_false]; constructor
      · intro h2; exact ⟨h2, by omega⟩
      · intro h2; exact h2.1
theorem allS_app0 {x y : List T_api_Event} (hx : 0 < x.length) (hy : 0 < y.length) : allS none (x ++ y) = 0 ↔ allS none x = 0 ∧ allS none y = 0 ∧ lastAt x ≤ headAt y := by
  have hne : x ≠ [] := by intro e; rw [e] at hx; simp at hx
  rw [allS_app]
  by_cases h : allS none x ≠ 0
  · rw [if_pos h]; constructor
    · intro g; exact absurd g h
    · intro g; exact absurd g.1 h
  · rw [if_neg h, if_neg hne, allS_prev hy]
    constructor
    · intro g; exact ⟨by omega, g⟩
    · intro g; exact g.2
theorem packS_iff {p : T_api_Packet} : packS p = 0 ↔ ¬ packBad p ∧ 0 < p.Events.length ∧ p.Events.length ≤ 1000 ∧ allS none p.Events = 0 := by
  unfold packS
  by_cases h1 : packBad p
  · rw [if_pos h1]; simp [h1]
  rw [if_neg h1]
  by_cases h2 : p.Events.length = 0
  · rw [if_pos h2]; simp [h2]
  rw [if_neg h2]
  by_cases h3 : p.Events.length > 1000
  · rw [if_pos h3]; simp; omega
  · rw [if_neg h3]
    constructor
    · intro h; exact ⟨h1, by omega, by omega, h⟩
    · intro h; exact h.2.2.2
theorem joinS_true {a b : T_api_Packet} (h : (joinS a b).2 = true) : packS a = 0 ∧ packS b = 0 ∧ a.Thread = b.Thread ∧ b.Lost = 0 ∧ b.Serial = a.Serial + a.Events.length ∧ lastAt a.Events ≤ headAt b.Events ∧ a.Events.length + b.Events.length ≤ 1000 ∧ joinS a b = (⟨a.Thread, a.Serial, a.Lost, a.Events ++ b.Events⟩, true) := by
  unfold joinS at *
  by_cases hj : joinBad a b
  · rw [if_pos hj] at h; cases h
  rw [if_neg hj] at *
  by_cases h2 : headAt b.Events < lastAt a.Events ∨ a.Events.length + b.Events.length > 1000
  · rw [if_pos h2] at h; cases h
  · rw [if_neg h2]
    unfold joinBad at hj
    exact ⟨by omega, by omega, by omega, by omega, by omega, by omega, by omega, rfl⟩
theorem join_split {a b : T_api_Packet} (h : (joinS a b).2 = true) : packS (joinS a b).1 = 0 ∧ splitS (joinS a b).1 (a.Events.length : Int) = (a, b, true) := by
  obtain ⟨h1, h2, h3, h4, h5, h6, h7, h8⟩ := joinS_true h
  rw [h8]
  have za := packS_zero h1
  have zb := packS_zero h2
  have hp : packS ⟨a.Thread, a.Serial, a.Lost, a.Events ++ b.Events⟩ = 0 := by
    rw [packS_iff]
    refine ⟨?_, by simp; omega, by simp; omega, (allS_app0 za.2.2.2.2.2.2.1 zb.2.2.2.2.2.2.1).2 ⟨za.2.2.2.2.2.2.2.2, zb.2.2.2.2.2.2.2.2, h6⟩⟩
    unfold packBad outP
    simp only [List.length_append]
    omega
  refine ⟨hp, ?_⟩
  unfold splitS
  rw [if_neg (show ¬ splitBad _ _ by unfold splitBad; simp only [List.length_append]; omega)]
  simp only [Int.toNat_natCast, List.take_left, List.drop_left]
  obtain ⟨_, _, _, _⟩ := a; obtain ⟨_, _, _, _⟩ := b
  simp only at *
  subst h3 h4 h5; rfl
theorem joinS_len {a b : T_api_Packet} : (joinS a b).1.Events.length ≤ 1000 ∧ (∀ e ∈ (joinS a b).1.Events, e ∈ a.Events ∨ e ∈ b.Events) := by
  unfold joinS
  by_cases hj : joinBad a b
  · rw [if_pos hj]; simp [pk0]
  rw [if_neg hj]
  by_cases h2 : headAt b.Events < lastAt a.Events ∨ a.Events.length + b.Events.length > 1000
  · rw [if_pos h2]; simp [pk0]
  · rw [if_neg h2]
    exact ⟨by simp; omega, fun e he => List.mem_append.1 he⟩
theorem L11_PacketJoins_plain : ∀ (a0 a1 : T_api_Packet), ok_T_api_Packet a0 → ok_T_api_Packet a1 → ∃ F, L11_PacketJoins F a0 a1 = some true := by
  intro a b _ _
  refine ⟨200000, ?_⟩
  unfold L11_PacketJoins
  rcases few_cases a with h | ⟨h, h1, h2⟩
  · rw [h]; simp only [Option.bind_some, Bool.not_false, cond_true, lives11]
  rcases few_cases b with g | ⟨g, g1, g2⟩
  · rw [h, g]; simp only [Option.bind_some, Bool.not_true, Bool.not_false, cond_true, cond_false, lives11]
  have hl := joinS_len (a := a) (b := b)
  have hs : ∀ e ∈ (joinS a b).1.Events, e.Stack.length ≤ 100000 := fun e he => (hl.2 e he).elim (fun k => by have := h2 e k; omega) (fun k => by have := g2 e k; omega)
  rw [h, g, packet_Join_eq (by omega) (by omega), R11_Join_eq (by omega) (by omega)]
  simp only [Option.bind_some, Bool.not_true, cond_false, R11_Same_eq (show (joinS a b).1.Events.length ≤ 100000 by omega) hs, decide_true, BEq.rfl]
  cases hj : (joinS a b).2
  · simp only [Bool.not_false, cond_true, lives11, Option.bind_some]
  · obtain ⟨k1, k2⟩ := join_split hj
    have hsa : ∀ e ∈ a.Events, e.Stack.length ≤ 100000 := fun e he => by have := h2 e he; omega
    have hsb : ∀ e ∈ b.Events, e.Stack.length ≤ 100000 := fun e he => by have := g2 e he; omega
    rw [packet_Split_eq (by omega), k2]
    simp only [Bool.not_true, cond_false, Option.bind_some, R11_Same_eq (show a.Events.length ≤ 100000 by omega) hsa, R11_Same_eq (show b.Events.length ≤ 100000 by omega) hsb, decide_true, cond_true, lives11]
end Go.Ab
