/- Plain laws of the functions below this seat's, laid anew from another seat's text. No conditions but those that the theorems name. -/
import Derived.Test.YtpdbjocgoheapaaP12xD
import Derived.Test.YtpdbjocgoheapaaBFuel
import Derived.Test.YtpdbjocgoheapaaB12bF
import Derived.Test.YtpdbjocgoheapaaB12cF
import Derived.Test.YtpdbjocgoheapaaB12dF
import Derived.Test.YtpdbjocgoheapaaB12eF
import Derived.Test.YtpdbjocgoheapaaB12fF
import Derived.Test.YtpdbjocgoheapaaB12gF
import Derived.Test.YtpdbjocgoheapaaB12hF
import Derived.Test.YtpdbjocgoheapaaB12iF
namespace Go.Ab
open Go
set_option linter.unusedVariables false
def evN' (l : List T_api_Packet) : Nat := (l.map fun p => p.Events.length).sum
theorem evN_cons (p : T_api_Packet) (l : List T_api_Packet) : evN' (p :: l) = p.Events.length + evN' l := by simp [evN']
theorem evN_mem {l : List T_api_Packet} {p : T_api_Packet} (h : p ∈ l) : p.Events.length ≤ evN' l := by
  induction l with
  | nil => cases h
  | cons q r ih =>
    rw [evN_cons]
    rcases List.mem_cons.1 h with rfl | h
    · omega
    · have := ih h; omega
theorem drain_events_eq {F : Nat} (hF : 200000 ≤ F) {l : List T_api_Packet} (hl : l.length ≤ 100000) (he : evN' l ≤ 1000000) : drain_events F l = some (evN' l : Int) := by
  unfold drain_events
  have key : ∀ (n i k : Nat), (l.drop i).length < n → k + evN' (l.drop i) ≤ 2000000 → drain_events_L1 F l n (k : Int) (i : Nat) = some ((k + evN' (l.drop i) : Nat) : Int) := by
    intro n
    induction n with
    | zero => intro i k h; omega
    | succ n ih =>
      intro i k hn hk
      show drain_events_L1_body _ _ _ _ _ = _
      unfold drain_events_L1_body
      rcases hd : l.drop i with _ | ⟨x, r⟩
      · have := drop_nil hd
        rw [dec_f (by omega), cond_false]; simp [evN']
      have hlt := drop_lt hd
      rw [hd] at hn hk
      rw [evN_cons] at hk
      simp only [List.length_cons] at hn
      rw [dec_t (by omega), cond_true, idxL_drop hd, Option.bind_some, w64 (by omega) (by omega), step64 (by omega), show (k : Int) + (x.Events.length : Int) = ((k + x.Events.length : Nat) : Int) by omega, ih (i + 1) _ (by rw [drop_step hd]; omega) (by rw [drop_step hd]; omega), drop_step hd, evN_cons, Nat.add_assoc]
  rw [show drain_events_L1 F l F 0 0 = _ from key F 0 0 (by simp; omega) (by simp; omega), Option.bind_some]; simp
def nextOf (s : T_api_Service) (id : Int) : Int := (s.Next[(atS s.Threads id).toNat]?).getD 0
def collS (s : T_api_Service) (p : T_api_Packet) : T_api_Service × Int :=
  if chkS s ≠ 0 then (s, chkS s) else if packS p ≠ 0 then (s, packS p) else if atS s.Threads p.Thread < 0 then (s, 5) else
  if p.Serial < nextOf s p.Thread then (s, 4) else if p.Serial ≠ nextOf s p.Thread + p.Lost then (s, 11) else if evN' s.Queue + p.Events.length > 20000 then (s, 6) else
  (⟨s.Threads, s.Next.set (atS s.Threads p.Thread).toNat (endP p), s.Queue ++ [p]⟩, 0)
theorem next_range {s : T_api_Service} (h : chkS s = 0) {n : Int} (hn : n ∈ s.Next) : 0 ≤ n ∧ n ≤ 1000000000000000 := by
  have hb := (chk_threads h).2.1
  unfold nextBad at hb
  have h2 : s.Next.all (fun n => !decide (outP n)) = true := by
    cases ha : s.Next.all (fun n => !decide (outP n))
    · exact absurd (.inr (by rw [ha]; simp)) hb
    · rfl
  have := List.all_eq_true.1 h2 n hn
  simp only [Bool.not_eq_true', decide_eq_false_iff_not] at this
  unfold outP at this; omega
theorem drain_Collect_eq {F : Nat} (hF : 200000 ≤ F) {s : T_api_Service} {p : T_api_Packet} (hq : ∀ p ∈ s.Queue, p.Events.length ≤ 100000) (hl : s.Queue.length ≤ 100000) (hn : s.Next.length ≤ 100000) (he : evN' s.Queue ≤ 1000000) (hp : p.Events.length ≤ 100000) : drain_Collect F s p = some (collS s p) := by
  unfold drain_Collect collS slices_Clone_int_int slices_Clone_tracebook_api_Packet_tracebook_api_Packet drain_end
  rw [drain_Check_eq hF hq hl hn, Option.bind_some]
  by_cases h : chkS s ≠ 0
  · rw [bne_t h, if_pos h]; rfl
  have hc := next_len (show chkS s = 0 by omega)
  have ht := threadsS_len (chk_threads (show chkS s = 0 by omega)).1
  rw [bne_f (by omega), if_neg h, cond_false, packet_Check_eq hF hp, Option.bind_some]
  by_cases h1 : packS p ≠ 0
  · rw [bne_t h1, if_pos h1]; rfl
  have hz := packS_zero (show packS p = 0 by omega)
  have hlt := atS_lt (l := s.Threads) (id := p.Thread)
  rw [bne_f (by omega), if_neg h1, cond_false, drain_find_eq hF (by omega), Option.bind_some]
  by_cases h2 : atS s.Threads p.Thread < 0
  · rw [dec_t h2, if_pos h2]; rfl
  have hget : s.Next[(atS s.Threads p.Thread).toNat]? = some (nextOf s p.Thread) := by
    unfold nextOf; rw [List.getElem?_eq_getElem (by omega)]; rfl
  have hx := next_range (show chkS s = 0 by omega) (List.mem_of_getElem? hget)
  rw [dec_f h2, if_neg h2, cond_false, idxL_at (by omega), hget, Option.bind_some]
  by_cases h3 : p.Serial < nextOf s p.Thread
  · rw [dec_t h3, if_pos h3]; rfl
  rw [dec_f h3, if_neg h3, cond_false, Option.bind_some, w64 (x := nextOf s p.Thread + p.Lost) (by omega) (by omega)]
  by_cases h4 : p.Serial ≠ nextOf s p.Thread + p.Lost
  · rw [bne_t h4, if_pos h4]; rfl
  rw [bne_f (by omega), if_neg h4, cond_false, drain_events_eq hF hl he, Option.bind_some, w64 (x := (evN' s.Queue : Int) + p.Events.length) (by omega) (by omega)]
  by_cases h5 : evN' s.Queue + p.Events.length > 20000
  · rw [dec_t (by omega), if_pos h5]; rfl
  rw [dec_f (by omega), if_neg h5, cond_false, need_t (by simp; omega), Option.bind_some, Option.bind_some, need_t (by simp; omega), Option.bind_some, Option.bind_some, need_t (by simp; omega), Option.bind_some, Option.bind_some, w64 (by omega) (by omega), idxL_at (by omega), List.nil_append, hget, Option.bind_some]
  rfl
end Go.Ab
