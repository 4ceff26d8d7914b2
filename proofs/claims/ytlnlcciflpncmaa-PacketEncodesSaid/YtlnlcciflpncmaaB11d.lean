/- Plain laws of the functions below this seat's, laid anew from another seat's text. No conditions but those that the theorems name. -/
import Derived.Test.YtlnlcciflpncmaaP11xD
import Derived.Test.YtlnlcciflpncmaaB11a
import Derived.Test.YtlnlcciflpncmaaB11b
import Derived.Test.YtlnlcciflpncmaaB11c
namespace Go.Ab
open Go
set_option linter.unusedVariables false
def allS : Option Int → List T_api_Event → Int
 | _, [] => 0
 | p, e :: r => if evS e ≠ 0 then evS e else bif p.any (fun a => decide (e.At < a)) then 11 else allS (some e.At) r
def prevAt (l : List T_api_Event) (i : Nat) : Option Int := if i = 0 then none else (l[i - 1]?).map (·.At)
theorem prevAt_succ {l : List T_api_Event} {i : Nat} {x : T_api_Event} {r : List T_api_Event} (h : l.drop i = x :: r) : prevAt l (i + 1) = some x.At := by
 unfold prevAt
 rw [if_neg (by omega), Nat.add_sub_cancel, get_drop h]; rfl
theorem event_CheckAll_loop {l : List T_api_Event} (hl : l.length ≤ 100000) : ∀ n i, (l.drop i).length < n → event_CheckAll_L1 200000 l n (i : Nat) = some (toO (allS (prevAt l i) (l.drop i))) := by
 intro n
 induction n with
 | zero => intro i h; omega
 | succ n ih =>
  intro i hn
  show event_CheckAll_L1_body _ _ _ _ = _
  unfold event_CheckAll_L1_body
  rcases hd : l.drop i with _ | ⟨x, r⟩
  ·have := drop_nil hd
   rw [dec_f (by omega)]; rfl
  have hlt := drop_lt hd
  have hi := ih (i + 1) (by rw [hd] at hn; rw [drop_step hd]; simp at hn; omega)
  rw [prevAt_succ hd, drop_step hd] at hi
  rw [dec_t (by omega), cond_true, idxL_drop hd, Option.bind_some, event_Check_eq, Option.bind_some]
  simp only [allS]
  by_cases he : evS x ≠ 0
  ·rw [bne_t he, if_pos he, toO_ne he]; rfl
  rw [bne_f (by omega), cond_false, if_neg he]
  by_cases h0 : i = 0
  ·subst h0
   rw [dec_f (by omega), cond_false, Option.bind_some, cond_false, step64 (by omega), hi]
   simp [prevAt]
  ·rw [dec_t (by omega), cond_true, idxL_prev (by omega) (by omega)]
   have hp : prevAt l i = some (l[i - 1]'(by omega)).At := by unfold prevAt; rw [if_neg h0, List.getElem?_eq_getElem (by omega)]; rfl
   rw [List.getElem?_eq_getElem (by omega), Option.bind_some, Option.bind_some, hp]
   simp only [Option.any_some]
   by_cases ht : x.At < (l[i - 1]'(by omega)).At
   ·rw [dec_t ht]; rfl
   ·rw [dec_f ht, cond_false, cond_false, step64 (by omega), hi]
theorem event_CheckAll_eq {l : List T_api_Event} (hl : l.length ≤ 100000) : event_CheckAll 200000 l = some (allS none l) := by
 unfold event_CheckAll
 rw [show event_CheckAll_L1 200000 l 200000 0 = _ from event_CheckAll_loop hl 200000 0 (by simp; omega), Option.bind_some]
 simp only [List.drop_zero, prevAt, if_true]
 unfold toO
 by_cases h : allS none l = 0
 ·rw [if_pos h, h]
 ·rw [if_neg h]
theorem R07_CheckAll_loop {l : List T_api_Event} (hl : l.length ≤ 100000) : ∀ n i, (l.drop i).length < n → R07_CheckAll_L1 200000 l n (i : Nat) = some (toO (allS (prevAt l i) (l.drop i))) := by
 intro n
 induction n with
 | zero => intro i h; omega
 | succ n ih =>
  intro i hn
  show R07_CheckAll_L1_body _ _ _ _ = _
  unfold R07_CheckAll_L1_body
  rcases hd : l.drop i with _ | ⟨x, r⟩
  ·have := drop_nil hd
   rw [dec_f (by omega)]; rfl
  have hlt := drop_lt hd
  have hi := ih (i + 1) (by rw [hd] at hn; rw [drop_step hd]; simp at hn; omega)
  rw [prevAt_succ hd, drop_step hd] at hi
  rw [dec_t (by omega), cond_true, idxL_drop hd, Option.bind_some, R07_Check_eq, Option.bind_some]
  simp only [allS]
  by_cases he : evS x ≠ 0
  ·rw [bne_t he, if_pos he, toO_ne he]; rfl
  rw [bne_f (by omega), cond_false, if_neg he]
  by_cases h0 : i = 0
  ·subst h0
   rw [dec_f (by omega), cond_false, Option.bind_some, cond_false, step64 (by omega), hi]
   simp [prevAt]
  ·rw [dec_t (by omega), cond_true, Option.bind_some, idxL_prev (by omega) (by omega)]
   have hp : prevAt l i = some (l[i - 1]'(by omega)).At := by unfold prevAt; rw [if_neg h0, List.getElem?_eq_getElem (by omega)]; rfl
   rw [List.getElem?_eq_getElem (by omega), Option.bind_some, Option.bind_some, hp]
   simp only [Option.any_some]
   by_cases ht : x.At < (l[i - 1]'(by omega)).At
   ·rw [dec_t ht]; rfl
   ·rw [dec_f ht, cond_false, cond_false, step64 (by omega), hi]
theorem R07_CheckAll_eq {l : List T_api_Event} (hl : l.length ≤ 100000) : R07_CheckAll 200000 l = some (allS none l) := by
 unfold R07_CheckAll
 rw [show R07_CheckAll_L1 200000 l 200000 0 = _ from R07_CheckAll_loop hl 200000 0 (by simp; omega), Option.bind_some]
 simp only [List.drop_zero, prevAt, if_true]
 unfold toO
 by_cases h : allS none l = 0
 ·rw [if_pos h, h]
 ·rw [if_neg h]
def outP (n : Int) : Prop := n < 0 ∨ n > 1000000000000000
instance decOutP : DecidablePred outP := fun n => inferInstanceAs (Decidable (_ ∨ _))
def packBad (p : T_api_Packet) : Prop := outP p.Thread ∨ outP p.Serial ∨ outP p.Lost ∨ p.Lost > p.Serial ∨ p.Serial + p.Events.length > 1000000000000000
instance decPackBad : DecidablePred packBad := fun n => inferInstanceAs (Decidable (_ ∨ _))
def packS (p : T_api_Packet) : Int :=
 if packBad p then 2 else
 if p.Events.length = 0 then 8 else if p.Events.length > 1000 then 7 else allS none p.Events
theorem packet_Check_eq {p : T_api_Packet} (hl : p.Events.length ≤ 100000) : packet_Check 200000 p = some (packS p) := by
 unfold packet_Check packS
 have hloop := bad_loop (l := [p.Thread, p.Serial, p.Lost]) (packet_Check_L1 200000 p) (fun _ x => if outP x then some (2 : Int) else none) (fun n i hi => by
  show packet_Check_L1_body 200000 p _ _ = _
  unfold packet_Check_L1_body
  simp only [List.length_cons, List.length_nil] at hi
  rw [dec_f (by omega)]; rfl) (fun n i x r hd hlt => by
  simp only [List.length_cons, List.length_nil] at hlt
  refine ⟨fun b hb => ?_, fun hb => ?_⟩
  ·show packet_Check_L1_body 200000 p _ _ = _
   unfold packet_Check_L1_body
   by_cases ho : outP x
   ·rw [if_pos ho] at hb; cases hb
    rw [dec_t (by omega), cond_true, idxL_drop hd, Option.bind_some, or_t ho]; rfl
   ·rw [if_neg ho] at hb; cases hb
  ·show packet_Check_L1_body 200000 p _ _ = _
   unfold packet_Check_L1_body
   by_cases ho : outP x
   ·rw [if_pos ho] at hb; cases hb
   ·rw [dec_t (by omega), cond_true, idxL_drop hd, Option.bind_some, or_f ho, cond_false, step64 (by omega)]) (n := 200000) (by simp)
 rw [hloop]
 simp only [firstBad]
 by_cases h1 : outP p.Thread
 ·rw [if_pos h1, if_pos (show packBad p from (.inl h1))]; rfl
 rw [if_neg h1]
 by_cases h2 : outP p.Serial
 ·simp only [if_pos h2]; rw [if_pos (show packBad p from (.inr (.inl h2)))]; rfl
 simp only [if_neg h2]
 by_cases h3 : outP p.Lost
 ·simp only [if_pos h3]; rw [if_pos (show packBad p from (.inr (.inr (.inl h3))))]; rfl
 simp only [if_neg h3, Option.bind_some]
 unfold outP at h1 h2 h3
 by_cases h4 : p.Lost > p.Serial
 ·rw [dec_t h4, if_pos (show packBad p from (.inr (.inr (.inr (.inl h4)))))]; rfl
 rw [dec_f h4, cond_false, Option.bind_some, w64 (by omega) (by omega)]
 by_cases h5 : p.Serial + p.Events.length > 1000000000000000
 ·rw [dec_t h5, if_pos (show packBad p from (.inr (.inr (.inr (.inr h5)))))]; rfl
 rw [dec_f h5, cond_false, if_neg (show ¬ packBad p by unfold packBad outP; omega)]
 by_cases h6 : p.Events.length = 0
 ·rw [beq_t (by omega), if_pos h6]; rfl
 rw [beq_f (by omega), cond_false, if_neg h6]
 by_cases h7 : p.Events.length > 1000
 ·rw [dec_t (by omega), if_pos h7]; rfl
 rw [dec_f (by omega), cond_false, if_neg h7, event_CheckAll_eq hl, Option.bind_some]
theorem R11_number_eq {n : Int} : R11_number n = some (!decide (outP n)) := by
 unfold R11_number
 congr 1
 by_cases h : outP n
 ·rw [dec_t h]; unfold outP at h; simp; omega
 ·rw [dec_f h]; unfold outP at h; simp; omega
theorem R11_Check_eq {p : T_api_Packet} (hl : p.Events.length ≤ 100000) : R11_Check 200000 p = some (packS p) := by
 unfold R11_Check packS
 rw [R11_number_eq, R11_number_eq, R11_number_eq]
 simp only [Option.bind_some, Bool.not_not]
 by_cases h1 : outP p.Thread
 ·rw [dec_t h1, if_pos (show packBad p from (.inl h1))]; rfl
 rw [dec_f h1, cond_false]
 by_cases h2 : outP p.Serial
 ·rw [dec_t h2, if_pos (show packBad p from (.inr (.inl h2)))]; rfl
 rw [dec_f h2, cond_false]
 by_cases h3 : outP p.Lost
 ·rw [dec_t h3, if_pos (show packBad p from (.inr (.inr (.inl h3))))]; rfl
 rw [dec_f h3, cond_false]
 unfold outP at h1 h2 h3
 by_cases h4 : p.Lost > p.Serial
 ·rw [dec_t h4, if_pos (show packBad p from (.inr (.inr (.inr (.inl h4)))))]; rfl
 rw [dec_f h4, Option.bind_some, cond_false, w64 (by omega) (by omega)]
 by_cases h5 : p.Serial + p.Events.length > 1000000000000000
 ·rw [dec_t (by omega), if_pos (show packBad p from (.inr (.inr (.inr (.inr h5)))))]; rfl
 rw [dec_f (by omega), cond_false, if_neg (show ¬ packBad p by unfold packBad outP; omega)]
 by_cases h6 : p.Events.length = 0
 ·rw [beq_t (by omega), if_pos h6]; rfl
 rw [beq_f (by omega), cond_false, if_neg h6]
 by_cases h7 : p.Events.length > 1000
 ·rw [dec_t (by omega), if_pos h7]; rfl
 rw [dec_f (by omega), cond_false, if_neg h7, R07_CheckAll_eq hl, Option.bind_some]
theorem packS_zero {p : T_api_Packet} (h : packS p = 0) : 0 ≤ p.Thread ∧ p.Thread ≤ 1000000000000000 ∧ 0 ≤ p.Serial ∧ 0 ≤ p.Lost ∧ p.Lost ≤ p.Serial ∧ p.Serial + p.Events.length ≤ 1000000000000000 ∧ 0 < p.Events.length ∧ p.Events.length ≤ 1000 ∧ allS none p.Events = 0 := by
 unfold packS at h
 by_cases h1 : packBad p
 ·rw [if_pos h1] at h; cases h
 rw [if_neg h1] at h
 unfold packBad outP at h1
 by_cases h2 : p.Events.length = 0
 ·rw [if_pos h2] at h; cases h
 rw [if_neg h2] at h
 by_cases h3 : p.Events.length > 1000
 ·rw [if_pos h3] at h; cases h
 rw [if_neg h3] at h
 exact ⟨by omega, by omega, by omega, by omega, by omega, by omega, by omega, by omega, h⟩
def joinBad (a b : T_api_Packet) : Prop := packS a ≠ 0 ∨ packS b ≠ 0 ∨ a.Thread ≠ b.Thread ∨ b.Lost ≠ 0 ∨ b.Serial ≠ a.Serial + a.Events.length
instance decJoinBad {a b : T_api_Packet} : Decidable (joinBad a b) := inferInstanceAs (Decidable (_ ∨ _))
def splitBad (p : T_api_Packet) (n : Int) : Prop := packS p ≠ 0 ∨ n < 1 ∨ n ≥ p.Events.length
instance decSplitBad {p : T_api_Packet} {n : Int} : Decidable (splitBad p n) := inferInstanceAs (Decidable (_ ∨ _))
end Go.Ab
