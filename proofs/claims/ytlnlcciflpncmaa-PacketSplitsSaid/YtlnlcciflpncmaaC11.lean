/- Packets: checks, limits, joining and splitting. -/
import Derived.Test.YtlnlcciflpncmaaB11d
import Derived.Test.YtlnlcciflpncmaaR11
namespace Go.Ab
open Go
set_option linter.unusedVariables false

theorem lives11 : L11_lives 200000 = some true := by kernel_rfl
theorem few_cases (p : T_api_Packet) : L11_few 200000 p = some false ∨ (L11_few 200000 p = some true ∧ p.Events.length ≤ 30 ∧ ∀ e ∈ p.Events, e.Stack.length ≤ 40) := by
  unfold L11_few
  by_cases hl : (p.Events.length : Int) > 30
  · rw [dec_t hl]; exact .inl rfl
  rw [dec_f hl, cond_false]
  have hloop := bad_loop (l := p.Events) (L11_few_L1 200000 p) (fun _ x => if x.Stack.length > 40 then some false else none) (fun n i hi => by
    show L11_few_L1_body 200000 p _ _ = _
    unfold L11_few_L1_body
    rw [dec_f (by omega)]; rfl) (fun n i x r hd hlt => by
    refine ⟨fun b hb => ?_, fun hb => ?_⟩
    · show L11_few_L1_body 200000 p _ _ = _
      unfold L11_few_L1_body
      by_cases ho : x.Stack.length > 40
      · rw [if_pos ho] at hb; cases hb
        rw [dec_t (by omega), cond_true, idxL_drop hd, Option.bind_some, dec_t (by omega)]; rfl
      · rw [if_neg ho] at hb; cases hb
    · show L11_few_L1_body 200000 p _ _ = _
      unfold L11_few_L1_body
      by_cases ho : x.Stack.length > 40
      · rw [if_pos ho] at hb; cases hb
      · rw [dec_t (by omega), cond_true, idxL_drop hd, Option.bind_some, dec_f (by omega), cond_false, step64 (by omega)]) (n := 200000) (by omega)
  rw [hloop, Option.bind_some]
  have key : ∀ (l : List T_api_Event) (i : Nat), firstBad (fun _ (x : T_api_Event) => if x.Stack.length > 40 then some false else none) i l = .inr false ∨ firstBad (fun _ (x : T_api_Event) => if x.Stack.length > 40 then some false else none) i l = .inl () ∧ ∀ e ∈ l, e.Stack.length ≤ 40 := by
    intro l
    induction l with
    | nil => intro i; exact .inr ⟨rfl, fun e he => by cases he⟩
    | cons x r ih =>
      intro i
      simp only [firstBad]
      by_cases ho : x.Stack.length > 40
      · simp only [if_pos ho]; exact .inl trivial
      · simp only [if_neg ho]
        rcases ih (i + 1) with h | ⟨h, h2⟩
        · exact .inl h
        · exact .inr ⟨h, fun e he => (List.mem_cons.1 he).elim (fun h => by rw [h]; omega) (h2 e)⟩
  rcases key p.Events 0 with h | ⟨h, h2⟩
  · rw [h]; exact .inl rfl
  · rw [h]; exact .inr ⟨rfl, by omega, h2⟩
theorem allS_app : ∀ (x y : List T_api_Event) (p : Option Int), allS p (x ++ y) = if allS p x ≠ 0 then allS p x else allS (if x = [] then p else some (lastAt x)) y := by
  intro x
  induction x with
  | nil => intro y p; simp [allS]
  | cons e r ih =>
    intro y p
    have hc : ∀ z, allS p (e :: z) = if evS e ≠ 0 then evS e else bif p.any (fun a => decide (e.At < a)) then 11 else allS (some e.At) z := fun z => rfl
    rw [List.cons_append, hc, hc]
    by_cases he : evS e ≠ 0
    · rw [if_pos he, if_pos he, if_pos he]
    rw [if_neg he, if_neg he]
    cases hp : p.any (fun a => decide (e.At < a))
    · rw [cond_false, cond_false, ih y (some e.At)]
      have hl : (if r = [] then some e.At else some (lastAt r)) = (if e :: r = [] then p else some (lastAt (e :: r))) := by
        rw [if_neg (show ¬ e :: r = [] by simp)]
        by_cases hr : r = []
        · rw [if_pos hr, hr]; rfl
        · rw [if_neg hr]; unfold lastAt; rw [List.getLast?_cons_of_ne_nil hr]
      rw [hl]
    · rfl
theorem allS_prev {y : List T_api_Event} {a : Int} (hy : 0 < y.length) : allS (some a) y = 0 ↔ allS none y = 0 ∧ a ≤ headAt y := by
  cases y with
  | nil => simp at hy
  | cons e r =>
    simp only [allS]
    have hh : headAt (e :: r) = e.At := rfl
    rw [hh]
    by_cases he : evS e ≠ 0
    · rw [if_pos he, if_pos he]; omega
    rw [if_neg he, if_neg he]
    simp only [Option.any_some, Option.any_none, cond_false]
    by_cases h : e.At < a
    · rw [dec_t h]; simp; omega
    · rw [dec_f h, cond_false]; constructor
      · intro h2; exact ⟨h2, by omega⟩
      · intro h2; exact h2.1
theorem allS_app0 {x y : List T_api_Event} (hx : 0 < x.length) (hy : 0 < y.length) : allS none (x ++ y) = 0 ↔ allS none x = 0 ∧ allS none y = 0 ∧ lastAt x ≤ headAt y := by
  have hne : x ≠ [] := by intro e; rw [e] at hx; simp at hx
  rw [allS_app]
  by_cases h : allS none x ≠ 0
  · rw [if_pos h]; constructor
    · intro g; exact absurd g h
    · intro g; exact absurd g.1 h
  · rw [if_neg h, if_neg hne, allS_prev hy]
    constructor
    · intro g; exact ⟨by omega, g⟩
    · intro g; exact g.2
theorem packS_iff {p : T_api_Packet} : packS p = 0 ↔ ¬ packBad p ∧ 0 < p.Events.length ∧ p.Events.length ≤ 1000 ∧ allS none p.Events = 0 := by
  unfold packS
  by_cases h1 : packBad p
  · rw [if_pos h1]; simp [h1]
  rw [if_neg h1]
  by_cases h2 : p.Events.length = 0
  · rw [if_pos h2]; simp [h2]
  rw [if_neg h2]
  by_cases h3 : p.Events.length > 1000
  · rw [if_pos h3]; simp; omega
  · rw [if_neg h3]
    constructor
    · intro h; exact ⟨h1, by omega, by omega, h⟩
    · intro h; exact h.2.2.2
theorem splitS_true {p : T_api_Packet} {n : Int} (h : (splitS p n).2.2 = true) : packS p = 0 ∧ 1 ≤ n ∧ n < p.Events.length ∧ splitS p n = (⟨p.Thread, p.Serial, p.Lost, p.Events.take n.toNat⟩, ⟨p.Thread, p.Serial + n, 0, p.Events.drop n.toNat⟩, true) := by
  unfold splitS at *
  by_cases hs : splitBad p n
  · rw [if_pos hs] at h; cases h
  · rw [if_neg hs]
    unfold splitBad at hs
    exact ⟨by omega, by omega, by omega, rfl⟩
theorem split_join {p : T_api_Packet} {n : Int} (h : (splitS p n).2.2 = true) : packS (splitS p n).1 = 0 ∧ packS (splitS p n).2.1 = 0 ∧ ((splitS p n).1.Events.length : Int) = n ∧ joinS (splitS p n).1 (splitS p n).2.1 = (p, true) := by
  obtain ⟨h1, h2, h3, h4⟩ := splitS_true h
  rw [h4]
  have zp := packS_zero h1
  have l1 : (p.Events.take n.toNat).length = n.toNat := by rw [List.length_take]; omega
  have l2 : (p.Events.drop n.toNat).length = p.Events.length - n.toNat := List.length_drop
  have ha := (allS_app0 (x := p.Events.take n.toNat) (y := p.Events.drop n.toNat) (by omega) (by omega)).1 (by rw [List.take_append_drop]; exact zp.2.2.2.2.2.2.2.2)
  have p1 : packS ⟨p.Thread, p.Serial, p.Lost, p.Events.take n.toNat⟩ = 0 := by
    rw [packS_iff]
    refine ⟨?_, by simp only [l1]; omega, by simp only [l1]; omega, ha.1⟩
    unfold packBad outP; simp only [l1]; omega
  have p2 : packS ⟨p.Thread, p.Serial + n, 0, p.Events.drop n.toNat⟩ = 0 := by
    rw [packS_iff]
    refine ⟨?_, by simp only [l2]; omega, by simp only [l2]; omega, ha.2.1⟩
    unfold packBad outP; simp only [l2]; omega
  refine ⟨p1, p2, by simp only [l1]; omega, ?_⟩
  unfold joinS
  rw [if_neg (show ¬ joinBad _ _ by unfold joinBad; simp only [l1]; omega), if_neg (by simp only [l1, l2]; omega)]
  simp only [List.take_append_drop]
theorem splitS_len {p : T_api_Packet} {n : Int} : (splitS p n).1.Events.length ≤ p.Events.length ∧ (splitS p n).2.1.Events.length ≤ p.Events.length ∧ (∀ e ∈ (splitS p n).1.Events, e ∈ p.Events) ∧ (∀ e ∈ (splitS p n).2.1.Events, e ∈ p.Events) := by
  unfold splitS
  by_cases hj : splitBad p n
  · rw [if_pos hj]; simp [pk0]
  · rw [if_neg hj]
    exact ⟨by simp only [List.length_take]; omega, by simp only [List.length_drop]; omega, fun e he => List.mem_of_mem_take he, fun e he => List.mem_of_mem_drop he⟩
theorem L11_PacketSplits_plain : ∀ (a0 : T_api_Packet) (a1 : Int), ok_T_api_Packet a0 → okI64 a1 → ∃ F, L11_PacketSplits F a0 a1 = some true := by
  intro p n _ _
  refine ⟨200000, ?_⟩
  unfold L11_PacketSplits
  rcases few_cases p with h | ⟨h, h1, h2⟩
  · rw [h]; simp only [Option.bind_some, Bool.not_false, cond_true, lives11]
  have hl := splitS_len (p := p) (n := n)
  have hs1 : ∀ e ∈ (splitS p n).1.Events, e.Stack.length ≤ 100000 := fun e he => by have := h2 e (hl.2.2.1 e he); omega
  have hs2 : ∀ e ∈ (splitS p n).2.1.Events, e.Stack.length ≤ 100000 := fun e he => by have := h2 e (hl.2.2.2 e he); omega
  have hs : ∀ e ∈ p.Events, e.Stack.length ≤ 100000 := fun e he => by have := h2 e he; omega
  rw [h, packet_Split_eq (by omega), R11_Split_eq (by omega)]
  simp only [Option.bind_some, Bool.not_true, cond_false, R11_Same_eq (show (splitS p n).1.Events.length ≤ 100000 by omega) hs1, R11_Same_eq (show (splitS p n).2.1.Events.length ≤ 100000 by omega) hs2, decide_true, BEq.rfl]
  cases hj : (splitS p n).2.2
  · simp only [Bool.not_false, cond_true, lives11, Option.bind_some]
  · obtain ⟨k1, k2, k3, k4⟩ := split_join hj
    have hz := packS_zero k2
    rw [packet_Join_eq (by omega) (by omega), k4, packet_Check_eq (by omega), packet_Check_eq (by omega), R07_CheckAll_eq (by omega), k1, k2, k3, hz.2.2.2.2.2.2.2.2]
    simp only [Bool.not_true, cond_false, Option.bind_some, R11_Same_eq (show p.Events.length ≤ 100000 by omega) hs, decide_true, cond_true, BEq.rfl, lives11]
end Go.Ab
