/- Plain laws of the functions below this seat's, laid anew from another seat's text. No conditions but those that the theorems name. -/
import Derived.Test.YtpdbjocgoheapaaP12xD
import Derived.Test.YtpdbjocgoheapaaB12b
import Derived.Test.YtpdbjocgoheapaaB12c
namespace Go.Ab
open Go
set_option linter.unusedVariables false
def allS : Option Int → List T_api_Event → Int
  | _, [] => 0
  | p, e :: r => if evS e ≠ 0 then evS e else bif p.any (fun a => decide (e.At < a)) then 11 else allS (some e.At) r
def prevAt (l : List T_api_Event) (i : Nat) : Option Int := if i = 0 then none else (l[i - 1]?).map (·.At)
theorem prevAt_succ {l : List T_api_Event} {i : Nat} {x : T_api_Event} {r : List T_api_Event} (h : l.drop i = x :: r) : prevAt l (i + 1) = some x.At := by
  unfold prevAt
  rw [if_neg (by omega), Nat.add_sub_cancel, get_drop h]; rfl
theorem event_CheckAll_loop {l : List T_api_Event} (hl : l.length ≤ 100000) : ∀ n i, (l.drop i).length < n → event_CheckAll_L1 200000 l n (i : Nat) = some (toO (allS (prevAt l i) (l.drop i))) := by
  intro n
  induction n with
  | zero => intro i h; omega
  | succ n ih =>
    intro i hn
    show event_CheckAll_L1_body _ _ _ _ = _
    unfold event_CheckAll_L1_body
    rcases hd : l.drop i with _ | ⟨x, r⟩
    · have := drop_nil hd
      rw [dec_f (by omega)]; rfl
    have hlt := drop_lt hd
    have hi := ih (i + 1) (by rw [hd] at hn; rw [drop_step hd]; simp at hn; omega)
    rw [prevAt_succ hd, drop_step hd] at hi
    rw [dec_t (by omega), cond_true, idxL_drop hd, Option.bind_some, event_Check_eq, Option.bind_some]
    simp only [allS]
    by_cases he : evS x ≠ 0
    · rw [bne_t he, if_pos he, toO_ne he]; rfl
    rw [bne_f (by omega), cond_false, if_neg he]
    by_cases h0 : i = 0
    · subst h0
      rw [dec_f (by omega), cond_false, Option.bind_some, cond_false, step64 (by omega), hi]
      simp [prevAt]
    · rw [dec_t (by omega), cond_true, idxL_prev (by omega) (by omega)]
      have hp : prevAt l i = some (l[i - 1]'(by omega)).At := by unfold prevAt; rw [if_neg h0, List.getElem?_eq_getElem (by omega)]; rfl
      rw [List.getElem?_eq_getElem (by omega), Option.bind_some, Option.bind_some, hp]
      simp only [Option.any_some]
      by_cases ht : x.At < (l[i - 1]'(by omega)).At
      · rw [dec_t ht]; rfl
      · rw [dec_f ht, cond_false, cond_false, step64 (by omega), hi]
theorem event_CheckAll_eq {l : List T_api_Event} (hl : l.length ≤ 100000) : event_CheckAll 200000 l = some (allS none l) := by
  unfold event_CheckAll
  rw [show event_CheckAll_L1 200000 l 200000 0 = _ from event_CheckAll_loop hl 200000 0 (by simp; omega), Option.bind_some]
  simp only [List.drop_zero, prevAt, if_true]
  unfold toO
  by_cases h : allS none l = 0
  · rw [if_pos h, h]
  · rw [if_neg h]
theorem allS_zero : ∀ {l : List T_api_Event} {p : Option Int}, allS p l = 0 → ∀ e ∈ l, evS e = 0 := by
  intro l
  induction l with
  | nil => intro p _ e he; cases he
  | cons x r ih =>
    intro p h e he
    simp only [allS] at h
    by_cases hx : evS x ≠ 0
    · rw [if_pos hx] at h; exact absurd h hx
    rw [if_neg hx] at h
    cases hb : p.any (fun a => decide (x.At < a)) <;> rw [hb] at h
    case true => cases h
    · rcases List.mem_cons.1 he with rfl | he
      · omega
      · exact ih h e he
def outP (n : Int) : Prop := n < 0 ∨ n > 1000000000000000
instance decOutP : DecidablePred outP := fun n => inferInstanceAs (Decidable (_ ∨ _))
def packBad (p : T_api_Packet) : Prop := outP p.Thread ∨ outP p.Serial ∨ outP p.Lost ∨ p.Lost > p.Serial ∨ p.Serial + p.Events.length > 1000000000000000
instance decPackBad : DecidablePred packBad := fun n => inferInstanceAs (Decidable (_ ∨ _))
def packS (p : T_api_Packet) : Int :=
  if packBad p then 2 else
  if p.Events.length = 0 then 8 else if p.Events.length > 1000 then 7 else allS none p.Events
theorem packet_Check_eq {p : T_api_Packet} (hl : p.Events.length ≤ 100000) : packet_Check 200000 p = some (packS p) := by
  unfold packet_Check packS
  have hloop := bad_loop (l := [p.Thread, p.Serial, p.Lost]) (packet_Check_L1 200000 p) (fun _ x => if outP x then some (2 : Int) else none) (fun n i hi => by
    show packet_Check_L1_body 200000 p _ _ = _
    unfold packet_Check_L1_body
    simp only [List.length_cons, List.length_nil] at hi
    rw [dec_f (by omega)]; rfl) (fun n i x r hd hlt => by
    simp only [List.length_cons, List.length_nil] at hlt
    refine ⟨fun b hb => ?_, fun hb => ?_⟩
    · show packet_Check_L1_body 200000 p _ _ = _
      unfold packet_Check_L1_body
      by_cases ho : outP x
      · rw [if_pos ho] at hb; cases hb
        rw [dec_t (by omega), cond_true, idxL_drop hd, Option.bind_some, or_t ho]; rfl
      · rw [if_neg ho] at hb; cases hb
    · show packet_Check_L1_body 200000 p _ _ = _
      unfold packet_Check_L1_body
      by_cases ho : outP x
      · rw [if_pos ho] at hb; cases hb
      · rw [dec_t (by omega), cond_true, idxL_drop hd, Option.bind_some, or_f ho, cond_false, step64 (by omega)]) (n := 200000) (by show 3 < 200000; omega)
  rw [hloop]
  simp only [firstBad]
  by_cases h1 : outP p.Thread
  · rw [if_pos h1, if_pos (show packBad p from (.inl h1))]; rfl
  rw [if_neg h1]
  by_cases h2 : outP p.Serial
  · simp only [if_pos h2]; rw [if_pos (show packBad p from (.inr (.inl h2)))]; rfl
  simp only [if_neg h2]
  by_cases h3 : outP p.Lost
  · simp only [if_pos h3]; rw [if_pos (show packBad p from (.inr (.inr (.inl h3))))]; rfl
  simp only [if_neg h3, Option.bind_some]
  unfold outP at h1 h2 h3
  by_cases h4 : p.Lost > p.Serial
  · rw [dec_t h4, if_pos (show packBad p from (.inr (.inr (.inr (.inl h4)))))]; rfl
  rw [dec_f h4, cond_false, Option.bind_some, w64 (by omega) (by omega)]
  by_cases h5 : p.Serial + p.Events.length > 1000000000000000
  · rw [dec_t h5, if_pos (show packBad p from (.inr (.inr (.inr (.inr h5)))))]; rfl
  rw [dec_f h5, cond_false, if_neg (show ¬ packBad p by unfold packBad outP; omega)]
  by_cases h6 : p.Events.length = 0
  · rw [beq_t (by omega), if_pos h6]; rfl
  rw [beq_f (by omega), cond_false, if_neg h6]
  by_cases h7 : p.Events.length > 1000
  · rw [dec_t (by omega), if_pos h7]; rfl
  rw [dec_f (by omega), cond_false, if_neg h7, event_CheckAll_eq hl, Option.bind_some]
theorem packS_zero {p : T_api_Packet} (h : packS p = 0) : 0 ≤ p.Thread ∧ p.Thread ≤ 1000000000000000 ∧ 0 ≤ p.Serial ∧ 0 ≤ p.Lost ∧ p.Lost ≤ p.Serial ∧ p.Serial + p.Events.length ≤ 1000000000000000 ∧ 0 < p.Events.length ∧ p.Events.length ≤ 1000 ∧ allS none p.Events = 0 := by
  unfold packS at h
  by_cases h1 : packBad p
  · rw [if_pos h1] at h; cases h
  rw [if_neg h1] at h
  unfold packBad outP at h1
  by_cases h2 : p.Events.length = 0
  · rw [if_pos h2] at h; cases h
  rw [if_neg h2] at h
  by_cases h3 : p.Events.length > 1000
  · rw [if_pos h3] at h; cases h
  rw [if_neg h3] at h
  exact ⟨by omega, by omega, by omega, by omega, by omega, by omega, by omega, by omega, h⟩
def pk0 : T_api_Packet := ⟨0, 0, 0, []⟩
def joinBad (a b : T_api_Packet) : Prop := packS a ≠ 0 ∨ packS b ≠ 0 ∨ a.Thread ≠ b.Thread ∨ b.Lost ≠ 0 ∨ b.Serial ≠ a.Serial + a.Events.length
instance decJoinBad {a b : T_api_Packet} : Decidable (joinBad a b) := inferInstanceAs (Decidable (_ ∨ _))
def headAt (l : List T_api_Event) : Int := (l.head?.map (·.At)).getD 0
def lastAt (l : List T_api_Event) : Int := (l.getLast?.map (·.At)).getD 0
def joinS (a b : T_api_Packet) : T_api_Packet × Bool :=
  if joinBad a b then (pk0, false) else if headAt b.Events < lastAt a.Events ∨ a.Events.length + b.Events.length > 1000 then (pk0, false) else (⟨a.Thread, a.Serial, a.Lost, a.Events ++ b.Events⟩, true)
theorem head_idx {l : List T_api_Event} (h : 0 < l.length) : ∃ x, idxL l 0 = some x ∧ x.At = headAt l := by
  cases l with
  | nil => simp at h
  | cons x r => exact ⟨x, rfl, rfl⟩
theorem last_idx {l : List T_api_Event} (h : 0 < l.length) (h1 : l.length ≤ 100000) : ∃ x, idxL l (w_i64 ((l.length : Int) - 1)) = some x ∧ x.At = lastAt l := by
  have hne : l ≠ [] := by intro e; rw [e] at h; simp at h
  rw [idxL_last (by omega) hne]
  unfold lastAt
  rw [List.getLast?_eq_some_getLast hne]
  exact ⟨_, rfl, rfl⟩
theorem join_cond {a b : T_api_Packet} (ha : a.Events.length ≤ 100000) {e : Int} (he : packS a = 0 → e = a.Serial + a.Events.length) :
    (bif (packS a != (0 : Int)) then some true else (bif (packS b != (0 : Int)) then some true else (bif (a.Thread != b.Thread) then some true else (bif (b.Lost != (0 : Int)) then some true else some (b.Serial != e))))) = some (decide (joinBad a b)) := by
  by_cases h1 : packS a ≠ 0
  · rw [bne_t h1, dec_t (.inl h1)]; rfl
  rw [bne_f (by omega), cond_false, he (by omega)]
  by_cases h2 : packS b ≠ 0
  · rw [bne_t h2, dec_t (.inr (.inl h2))]; rfl
  rw [bne_f (by omega), cond_false]
  by_cases h3 : a.Thread ≠ b.Thread
  · rw [bne_t h3, dec_t (.inr (.inr (.inl h3)))]; rfl
  rw [bne_f (by omega), cond_false]
  by_cases h4 : b.Lost ≠ 0
  · rw [bne_t h4, dec_t (.inr (.inr (.inr (.inl h4))))]; rfl
  rw [bne_f (by omega), cond_false]
  by_cases h5 : b.Serial ≠ a.Serial + a.Events.length
  · rw [bne_t h5, dec_t (.inr (.inr (.inr (.inr h5))))]
  · rw [bne_f (by omega), dec_f]
    unfold joinBad; omega
theorem Concat_eq {a b : List T_api_Event} (ha : a.length ≤ 1000) (hb : b.length ≤ 1000) : slices_Concat_tracebook_api_Event_tracebook_api_Event 200000 [a, b] = some (a ++ b) := by
  unfold slices_Concat_tracebook_api_Event_tracebook_api_Event
  have h1 : slices_Concat_tracebook_api_Event_tracebook_api_Event_L1 200000 [a, b] 200000 0 0 = some ((a.length : Int) + b.length) := by
    obtain ⟨g, hg⟩ : ∃ g, 200000 = g + 3 := ⟨200000 - 3, by omega⟩
    suffices h : ∀ K, slices_Concat_tracebook_api_Event_tracebook_api_Event_L1 K [a, b] (g + 3) 0 0 = some ((a.length : Int) + b.length) by rw [← hg] at h; exact h _
    intro K
    show slices_Concat_tracebook_api_Event_tracebook_api_Event_L1_body _ _ _ _ _ = _
    unfold slices_Concat_tracebook_api_Event_tracebook_api_Event_L1_body
    rw [dec_t (by simp), cond_true, show idxL [a, b] 0 = some a from rfl, Option.bind_some, w64 (by omega) (by omega), dec_f (by omega), cond_false]
    show slices_Concat_tracebook_api_Event_tracebook_api_Event_L1_body _ _ _ _ 1 = _
    unfold slices_Concat_tracebook_api_Event_tracebook_api_Event_L1_body
    rw [dec_t (by simp), cond_true, show idxL [a, b] 1 = some b from rfl, Option.bind_some, w64 (by omega) (by omega), dec_f (by omega), cond_false]
    show slices_Concat_tracebook_api_Event_tracebook_api_Event_L1_body _ _ _ _ 2 = _
    unfold slices_Concat_tracebook_api_Event_tracebook_api_Event_L1_body
    rw [dec_f (by simp), cond_false, Int.zero_add]
  have h2 : slices_Grow_tracebook_api_Event_tracebook_api_Event ((a.length : Int) + b.length) = some [] := by
    unfold slices_Grow_tracebook_api_Event_tracebook_api_Event
    rw [dec_f (by omega), cond_false, Option.bind_some, show w_i64 ((0 : Int) - ((0 : Nat) : Int)) = 0 from rfl, w64 (by omega) (by omega)]
    by_cases h : (a.length : Int) + b.length - 0 > 0
    · rw [dec_t h, cond_true, need_t (by omega), Option.bind_some]
    · rw [dec_f h, cond_false]
  have h3 : slices_Concat_tracebook_api_Event_tracebook_api_Event_L2 200000 [a, b] 200000 0 [] = some (a ++ b) := by
    obtain ⟨g, hg⟩ : ∃ g, 200000 = g + 3 := ⟨200000 - 3, by omega⟩
    suffices h : ∀ K, slices_Concat_tracebook_api_Event_tracebook_api_Event_L2 K [a, b] (g + 3) 0 [] = some (a ++ b) by rw [← hg] at h; exact h _
    intro K
    show slices_Concat_tracebook_api_Event_tracebook_api_Event_L2_body _ _ _ _ _ = _
    unfold slices_Concat_tracebook_api_Event_tracebook_api_Event_L2_body
    rw [dec_t (by simp), cond_true, show idxL [a, b] 0 = some a from rfl, Option.bind_some, need_t (by simp; omega), Option.bind_some]
    show slices_Concat_tracebook_api_Event_tracebook_api_Event_L2_body _ _ _ 1 _ = _
    unfold slices_Concat_tracebook_api_Event_tracebook_api_Event_L2_body
    rw [dec_t (by simp), cond_true, show idxL [a, b] 1 = some b from rfl, Option.bind_some, need_t (by simp; omega), Option.bind_some]
    show slices_Concat_tracebook_api_Event_tracebook_api_Event_L2_body _ _ _ 2 _ = _
    unfold slices_Concat_tracebook_api_Event_tracebook_api_Event_L2_body
    rw [dec_f (by simp), cond_false, List.nil_append]
  rw [h1, Option.bind_some, h2, Option.bind_some, h3, Option.bind_some]
theorem packet_Join_eq {a b : T_api_Packet} (ha : a.Events.length ≤ 100000) (hb : b.Events.length ≤ 100000) : packet_Join 200000 a b = some (joinS a b) := by
  unfold packet_Join joinS
  rw [packet_Check_eq ha, packet_Check_eq hb]
  simp only [Option.bind_some]
  rw [join_cond (a := a) (b := b) ha (fun h => by have := packS_zero h; exact w64 (by omega) (by omega)), Option.bind_some]
  by_cases hj : joinBad a b
  · rw [dec_t hj, if_pos hj]; rfl
  rw [dec_f hj, if_neg hj, cond_false]
  have pa : packS a = 0 := by unfold joinBad at hj; omega
  have pb : packS b = 0 := by unfold joinBad at hj; omega
  obtain ⟨_, _, _, _, _, _, a1, a2, _⟩ := packS_zero pa
  obtain ⟨_, _, _, _, _, _, b1, b2, _⟩ := packS_zero pb
  rw [Concat_eq a2 b2, Option.bind_some]
  obtain ⟨x, hx, hx2⟩ := head_idx b1
  obtain ⟨y, hy, hy2⟩ := last_idx a1 ha
  rw [hx, Option.bind_some, hy, Option.bind_some, hx2, hy2, List.length_append]
  by_cases h1 : headAt b.Events < lastAt a.Events
  · rw [dec_t h1, if_pos (.inl h1)]; rfl
  rw [dec_f h1, cond_false, Option.bind_some]
  by_cases h2 : a.Events.length + b.Events.length > 1000
  · rw [dec_t (by omega), if_pos (.inr h2)]; rfl
  · rw [dec_f (by omega), if_neg (fun h => h.elim h1 h2)]; rfl
def splitBad (p : T_api_Packet) (n : Int) : Prop := packS p ≠ 0 ∨ n < 1 ∨ n ≥ p.Events.length
instance decSplitBad {p : T_api_Packet} {n : Int} : Decidable (splitBad p n) := inferInstanceAs (Decidable (_ ∨ _))
end Go.Ab
