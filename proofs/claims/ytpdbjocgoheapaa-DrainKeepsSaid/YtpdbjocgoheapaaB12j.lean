/- Plain laws of the functions below this seat's, laid anew from another seat's text. No conditions but those that the theorems name. -/
import Derived.Test.YtpdbjocgoheapaaP12xD
import Derived.Test.YtpdbjocgoheapaaB12b
import Derived.Test.YtpdbjocgoheapaaB12c
import Derived.Test.YtpdbjocgoheapaaB12d
import Derived.Test.YtpdbjocgoheapaaB12e
import Derived.Test.YtpdbjocgoheapaaB12f
import Derived.Test.YtpdbjocgoheapaaB12g
import Derived.Test.YtpdbjocgoheapaaB12h
import Derived.Test.YtpdbjocgoheapaaB12i
namespace Go.Ab
open Go
set_option linter.unusedVariables false
def evN' (l : List T_api_Packet) : Nat := (l.map fun p => p.Events.length).sum
theorem evN_cons (p : T_api_Packet) (l : List T_api_Packet) : evN' (p :: l) = p.Events.length + evN' l := by simp [evN']
theorem evN_mem {l : List T_api_Packet} {p : T_api_Packet} (h : p ∈ l) : p.Events.length ≤ evN' l := by
  induction l with
  | nil => cases h
  | cons q r ih =>
    rw [evN_cons]
    rcases List.mem_cons.1 h with rfl | h
    · omega
    · have := ih h; omega
theorem drain_events_eq {l : List T_api_Packet} (hl : l.length ≤ 100000) (he : evN' l ≤ 1000000) : drain_events 200000 l = some (evN' l : Int) := by
  unfold drain_events
  have key : ∀ (n i k : Nat), (l.drop i).length < n → k + evN' (l.drop i) ≤ 2000000 → drain_events_L1 200000 l n (k : Int) (i : Nat) = some ((k + evN' (l.drop i) : Nat) : Int) := by
    intro n
    induction n with
    | zero => intro i k h; omega
    | succ n ih =>
      intro i k hn hk
      show drain_events_L1_body _ _ _ _ _ = _
      unfold drain_events_L1_body
      rcases hd : l.drop i with _ | ⟨x, r⟩
      · have := drop_nil hd
        rw [dec_f (by omega), cond_false]; simp [evN']
      have hlt := drop_lt hd
      rw [hd] at hn hk
      rw [evN_cons] at hk
      simp only [List.length_cons] at hn
      rw [dec_t (by omega), cond_true, idxL_drop hd, Option.bind_some, w64 (by omega) (by omega), step64 (by omega), show (k : Int) + (x.Events.length : Int) = ((k + x.Events.length : Nat) : Int) by omega, ih (i + 1) _ (by rw [drop_step hd]; omega) (by rw [drop_step hd]; omega), drop_step hd, evN_cons, Nat.add_assoc]
  rw [show drain_events_L1 200000 l 200000 0 0 = _ from key 200000 0 0 (by simp; omega) (by simp; omega), Option.bind_some]; simp
def nextOf (s : T_api_Service) (id : Int) : Int := (s.Next[(atS s.Threads id).toNat]?).getD 0
def collS (s : T_api_Service) (p : T_api_Packet) : T_api_Service × Int :=
  if chkS s ≠ 0 then (s, chkS s) else if packS p ≠ 0 then (s, packS p) else if atS s.Threads p.Thread < 0 then (s, 5) else
  if p.Serial < nextOf s p.Thread then (s, 4) else if p.Serial ≠ nextOf s p.Thread + p.Lost then (s, 11) else if evN' s.Queue + p.Events.length > 20000 then (s, 6) else
  (⟨s.Threads, s.Next.set (atS s.Threads p.Thread).toNat (endP p), s.Queue ++ [p]⟩, 0)
theorem next_range {s : T_api_Service} (h : chkS s = 0) {n : Int} (hn : n ∈ s.Next) : 0 ≤ n ∧ n ≤ 1000000000000000 := by
  have hb := (chk_threads h).2.1
  unfold nextBad at hb
  have h2 : s.Next.all (fun n => !decide (outP n)) = true := by
    cases ha : s.Next.all (fun n => !decide (outP n))
    · exact absurd (.inr (by rw [ha]; simp)) hb
    · rfl
  have := List.all_eq_true.1 h2 n hn
  simp only [Bool.not_eq_true', decide_eq_false_iff_not] at this
  unfold outP at this; omega
theorem drain_Collect_eq {s : T_api_Service} {p : T_api_Packet} (hq : ∀ p ∈ s.Queue, p.Events.length ≤ 100000) (hl : s.Queue.length ≤ 100000) (hn : s.Next.length ≤ 100000) (he : evN' s.Queue ≤ 1000000) (hp : p.Events.length ≤ 100000) : drain_Collect 200000 s p = some (collS s p) := by
  unfold drain_Collect collS slices_Clone_int_int slices_Clone_tracebook_api_Packet_tracebook_api_Packet drain_end
  rw [drain_Check_eq hq hl hn, Option.bind_some]
  by_cases h : chkS s ≠ 0
  · rw [bne_t h, if_pos h]; rfl
  have hc := next_len (show chkS s = 0 by omega)
  have ht := threadsS_len (chk_threads (show chkS s = 0 by omega)).1
  rw [bne_f (by omega), if_neg h, cond_false, packet_Check_eq hp, Option.bind_some]
  by_cases h1 : packS p ≠ 0
  · rw [bne_t h1, if_pos h1]; rfl
  have hz := packS_zero (show packS p = 0 by omega)
  have hlt := atS_lt (l := s.Threads) (id := p.Thread)
  rw [bne_f (by omega), if_neg h1, cond_false, drain_find_eq (by omega), Option.bind_some]
  by_cases h2 : atS s.Threads p.Thread < 0
  · rw [dec_t h2, if_pos h2]; rfl
  have hget : s.Next[(atS s.Threads p.Thread).toNat]? = some (nextOf s p.Thread) := by
    unfold nextOf; rw [List.getElem?_eq_getElem (by omega)]; rfl
  have hx := next_range (show chkS s = 0 by omega) (List.mem_of_getElem? hget)
  rw [dec_f h2, if_neg h2, cond_false, idxL_at (by omega), hget, Option.bind_some]
  by_cases h3 : p.Serial < nextOf s p.Thread
  · rw [dec_t h3, if_pos h3]; rfl
  rw [dec_f h3, if_neg h3, cond_false, Option.bind_some, w64 (x := nextOf s p.Thread + p.Lost) (by omega) (by omega)]
  by_cases h4 : p.Serial ≠ nextOf s p.Thread + p.Lost
  · rw [bne_t h4, if_pos h4]; rfl
  rw [bne_f (by omega), if_neg h4, cond_false, drain_events_eq hl he, Option.bind_some, w64 (x := (evN' s.Queue : Int) + p.Events.length) (by omega) (by omega)]
  by_cases h5 : evN' s.Queue + p.Events.length > 20000
  · rw [dec_t (by omega), if_pos h5]; rfl
  rw [dec_f (by omega), if_neg h5, cond_false, need_t (by simp; omega), Option.bind_some, Option.bind_some, need_t (by simp; omega), Option.bind_some, Option.bind_some, need_t (by simp; omega), Option.bind_some, Option.bind_some, w64 (by omega) (by omega), idxL_at (by omega), List.nil_append, hget, Option.bind_some]
  rfl
/-- A queue in order stays so with a packet at its end. -/
theorem qrun_snoc {ts : List T_api_Thread} : ∀ {l : List T_api_Packet} {row row' : List (Int × Int)} {p : T_api_Packet}, qrun ts row l = some row' → ¬ pkBad ts p → follows (mget row' (atS ts p.Thread)) p = true → qrun ts row (l ++ [p]) = some (mput row' (atS ts p.Thread) (endP p)) := by
  intro l
  induction l with
  | nil =>
    intro row row' p h hb hf
    cases h
    show qrun ts row [p] = _
    simp only [qrun]
    rw [if_neg hb, hf]; rfl
  | cons q r ih =>
    intro row row' p h hb hf
    simp only [qrun, List.cons_append] at h ⊢
    by_cases hq : pkBad ts q
    · rw [if_pos hq] at h; cases h
    rw [if_neg hq] at h ⊢
    cases hfo : follows (mget row (atS ts q.Thread)) q <;> rw [hfo] at h
    · cases h
    · exact ih h hb hf
theorem coll_ok {s : T_api_Service} {p : T_api_Packet} (h : (collS s p).2 = 0) : chkS s = 0 ∧ packS p = 0 ∧ 0 ≤ atS s.Threads p.Thread ∧ p.Serial = nextOf s p.Thread + p.Lost ∧ evN' s.Queue + p.Events.length ≤ 20000 ∧
    collS s p = (⟨s.Threads, s.Next.set (atS s.Threads p.Thread).toNat (endP p), s.Queue ++ [p]⟩, 0) := by
  unfold collS at *
  by_cases h0 : chkS s ≠ 0
  · rw [if_pos h0] at h; exact absurd h h0
  rw [if_neg h0] at *
  by_cases h1 : packS p ≠ 0
  · rw [if_pos h1] at h; exact absurd h h1
  rw [if_neg h1] at *
  by_cases h2 : atS s.Threads p.Thread < 0
  · rw [if_pos h2] at h; cases h
  rw [if_neg h2] at *
  by_cases h3 : p.Serial < nextOf s p.Thread
  · rw [if_pos h3] at h; cases h
  rw [if_neg h3] at *
  by_cases h4 : p.Serial ≠ nextOf s p.Thread + p.Lost
  · rw [if_pos h4] at h; cases h
  rw [if_neg h4] at *
  by_cases h5 : evN' s.Queue + p.Events.length > 20000
  · rw [if_pos h5] at h; cases h
  rw [if_neg h5]
  exact ⟨by omega, by omega, by omega, by omega, by omega, rfl⟩
theorem chk_coll {s : T_api_Service} {p : T_api_Packet} (h : (collS s p).2 = 0) : chkS (collS s p).1 = 0 := by
  obtain ⟨h0, h1, h2, h3, h4, h5⟩ := coll_ok h
  obtain ⟨k1, k2, k3⟩ := chk_threads h0
  have hnl := next_len h0
  have hlt := atS_lt (l := s.Threads) (id := p.Thread)
  have hz := packS_zero h1
  have he := endP_range h1
  rw [h5]
  unfold chkS
  rw [if_neg (show ¬ threadsS s.Threads ≠ 0 by omega), if_neg]
  · unfold qok at k3 ⊢
    cases hr : qrun s.Threads [] s.Queue with
    | none => rw [hr] at k3; cases k3
    | some row =>
      rw [hr] at k3
      simp only at k3
      have hi := (qrun_inv (row := []) ⟨by simp, by simp⟩ hr).1
      have hget : s.Next[(atS s.Threads p.Thread).toNat]? = some (nextOf s p.Thread) := by
        unfold nextOf; rw [List.getElem?_eq_getElem (by omega)]; rfl
      have hf : follows (mget row (atS s.Threads p.Thread)) p = true := by
        unfold follows
        cases hm : mget row (atS s.Threads p.Thread) with
        | none => rfl
        | some e =>
          have := List.all_eq_true.1 k3 _ (mget_mem hm)
          unfold rowOk at this
          simp only [hget, decide_eq_true_eq, Option.some.injEq] at this
          exact dec_t (by omega)
      simp only
      rw [qrun_snoc hr (by unfold pkBad; omega) hf]
      have : (mput row (atS s.Threads p.Thread) (endP p)).all (rowOk (s.Next.set (atS s.Threads p.Thread).toNat (endP p))) = true := by
        refine List.all_eq_true.2 (fun q hq => ?_)
        unfold rowOk
        have hI := hi.put (k := atS s.Threads p.Thread) (v := endP p) h2 hlt he.1 he.2
        have hb := hI.2 q hq
        by_cases hk : q.1 = atS s.Threads p.Thread
        · have hv : q.2 = endP p := by
            have := mget_of hI.1 (show (q.1, q.2) ∈ _ from hq)
            rw [hk, mget_mput, if_pos rfl] at this
            injection this with this; exact this.symm
          rw [hk, hv]
          exact dec_t (by rw [List.getElem?_set_self (by omega)])
        · have hold : q ∈ row := by
            rcases mem_mput hq with e | e
            · rw [e] at hk; exact absurd rfl hk
            · exact e
          have := List.all_eq_true.1 k3 q hold
          unfold rowOk at this
          rw [List.getElem?_set_ne (by omega)]; exact this
      show (bif (mput row (atS s.Threads p.Thread) (endP p)).all (rowOk (s.Next.set (atS s.Threads p.Thread).toNat (endP p))) then (0 : Int) else 10) = 0
      rw [this]; rfl
  · unfold nextBad
    rintro (hb | hb)
    · apply hb; simp [hnl]
    · apply hb
      refine List.all_eq_true.2 (fun n hn => ?_)
      rcases List.mem_or_eq_of_mem_set hn with hn | hn
      · have := next_range h0 hn
        rw [dec_f (by unfold outP; omega)]; rfl
      · subst hn
        rw [dec_f (by unfold outP; omega)]; rfl
end Go.Ab
